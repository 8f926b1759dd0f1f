/- LawPulseAgain: texts joined into one: RangeP, FewVals, Own, FewColl, Fewest, FewAny, PulseKnown, ManP. -/
import Derived.WalkKit
import Derived.OwnWalkIn
import Derived.TacticsInMore
import Derived.RegionIn
import Derived.LoopNIn
import Derived.LoopIn
import Derived.BigFrameIn
import Derived.Maps.AppendAt
import Derived.Deep.DeepMust
import Derived.Maps.OwnIn
import Derived.Test.YtpjlihkpnhamlaaLawPulseAgainM1
import Derived.Test.YtpjlihkpnhamlaaLawPulseAgainM2

/- A range over a function whose elements come in an order that is told only as they come: the iterator's promise, to every loop body; the loop's rule. -/
section
set_option linter.unusedSimpArgs false
set_option linter.unusedVariables false
namespace Go.Proofs.Ytpjlihkpnhamlaa
open Go.RowKit Go.Shelf

theorem foldp1 (p : Tmp) (x : Value) (t : Array Value) : (#[p].zip #[x]).foldl (fun t (p, v) => t.setIfInBounds p v) t = t.setIfInBounds p x := by simp

/-- the caller's word abides the iterator's steps -/
def AbideP {α : Type} (J : List α → (Nat → Prop) → World → Prop) : Prop :=
  ∀ pre O O' W W', J pre O W → Keeps O' W W' → (∀ b, O b → O' b) → (∀ b, O' b → O b ∨ (W.heap.size ≤ b ∧ b < W'.heap.size)) → J pre O' W'

/-- a function value yields elements, one after another: Part: what can have come; All: what has come at the end -/
def IteratesP {α : Type} (P : Program) (gf : Nat) (lb : Array Value) (Part All : List α → Prop) (enc : α → Array Value) (S R : Nat → Prop) (W0 : World) : Prop :=
  ∀ (L : Nat) (J : List α → (Nat → Prop) → World → Prop) (W : World), Below W0.heap.size W0 W → AbideP J →
    (∀ pre x O W1, Part (pre ++ [x]) → (∀ b, S b → O b) → J pre O W1 →
      YieldAt Fence.wide 0 P L (enc x) W1 fun e W2 => e = .returned (.bool true) ∧ J (pre ++ [x]) O W2 ∧ Keeps (fun b => ¬ O b ∧ ¬ R b) W1 W2) →
    J [] S W → CallsIn Fence.wide 0 P gf (#[.func (.yield L) #[] #[]] ++ lb) W fun e W' => (∃ v, e = .returned v) ∧ ∃ O xs, All xs ∧ (∀ b, S b → O b) ∧ J xs O W'

theorem rangeFunc_wideP {α : Type} {P : Program} {g : Operand} {ps : Array Tmp} {assign body : Code} {Q : Exit → Act → World → Prop} {a : Act} {w : World} {gf : Nat} {lb : Array Value}
    {Part All : List α → Prop} {enc : α → Array Value} {S R : Nat → Prop} (hg : a.eval g = .func (.func gf) #[] lb) (eg : ∀ args w, (callFunc gf args).run P w = .ok (.enter gf args) w)
    (hit : IteratesP P gf lb Part All enc S R w) (hS : ∀ b, S b → b < w.heap.size) (hR : ∀ b, R b → b < w.heap.size) (hps : ∀ x, (enc x).size = ps.size)
    (I : List α → (Nat → Prop) → World → Prop) (hI : AbideP I) (h0 : I [] S w)
    (hround : ∀ (l : Nat) (O : Nat → Prop) (k : List α) (x : α) (W : World) (hk : Part (k ++ [x])), I k O W → (∀ b, S b → O b) → O l → l < W.heap.size →
      assign.wpIn (Fence.wide.inRound l) 0 P (Exit.then (fun a₁ W1 => Keeps (fun b => ¬ O b ∧ ¬ R b) W W1 ∧ I k O W1 ∧ ∀ W2, Keeps (fun b => b = l) W1 W2 → I k O W2 →
          body.wpIn (Fence.wide.inRound l) 0 P (fun e _ W' => e = .normal ∧ I (k ++ [x]) O W' ∧ Keeps (fun b => ¬ O b ∧ ¬ R b) W2 W') a₁ W2) (fun _ _ _ => False))
        { tmps := (ps.zip (enc x)).foldl (fun t (p, v) => t.setIfInBounds p v) a.tmps, defers := [] } W)
    (hdone : ∀ (D : Nat) (O : Nat → Prop) (xs : List α) (W : World), All xs → I xs O W → (∀ b, S b → O b) → O D → w.heap.size ≤ D → W.heap[D]? = some (.deferred (some [])) →
      Q .normal { a with defers := { target := .collected D, args := #[] } :: a.defers } W) :
    (Code.rangeFunc g ps assign body).wpIn Fence.wide 0 P Q a w := by
  refine wpIn_rangeFunc ?_
  intro fn hfn
  obtain ⟨rec, hrec⟩ : ∃ rec : LoopState → Option Code → Loop, rec = fun st pe => { state := st, pending := pe, fn, tmps := a.tmps, params := ps, assign, body, defers := w.heap.size } := ⟨_, rfl⟩
  obtain ⟨W1, hW1⟩ : ∃ W1, (w.alloc (.deferred (some []))).alloc (.loop (rec .ready none)) = W1 := ⟨_, rfl⟩
  have hL1 : W1.heap[w.heap.size + 1]? = some (.loop (rec .ready none)) := by
    rw [← hW1]; have := World.alloc_heap_new (w.alloc (.deferred (some []))) (.loop (rec .ready none)); rwa [World.size_alloc] at this
  have hK1 : W1.heap[w.heap.size]? = some (.deferred (some [])) := by
    rw [← hW1]; exact (Below.heap_alloc _ _ _ (by simp)).trans (World.alloc_heap_new w _)
  have hb1 : Below w.heap.size w W1 := by
    rw [← hW1]; exact ((Below.refl _ w).alloc (Nat.le_refl _) _).alloc (by simp) _
  have hz1 : W1.heap.size = w.heap.size + 2 := by rw [← hW1]; simp
  -- the iterator's set, and the loop's two blocks
  let up : (Nat → Prop) → Nat → Prop := fun O b => O b ∨ b = w.heap.size ∨ b = w.heap.size + 1
  have hI1 : I [] (up S) W1 := hI [] S (up S) w W1 h0 (Keeps.below hb1) (fun b h => .inl h) (fun b h => by rcases h with h | h | h <;> first | exact .inl h | exact .inr (by omega))
  refine ⟨w.heap.size + 1, [{ target := .collected w.heap.size, args := #[] }], W1, { target := .fn (.func gf) lb, args := #[.func (.yield (w.heap.size + 1)) #[] #[]] }, W1, gf,
    #[.func (.yield (w.heap.size + 1)) #[] #[]] ++ lb, W1, ?_, ?_, ?_, ?_, fun h => (by cases h), ?_⟩
  · rw [← hW1, hrec]; exact run_enterLoop_outer _ _ _ _ _
  · simp only [resolve, hg]
    simp [go_sem]
  · intro f' hf'; trivial
  · simp [invoke, go_sem, eg]
  · refine (hit (w.heap.size + 1)
      (fun k O W => I k (up O) W ∧ (¬ O w.heap.size ∧ ¬ O (w.heap.size + 1)) ∧ W.heap[w.heap.size + 1]? = some (.loop (rec .ready none)) ∧ W.heap[w.heap.size]? = some (.deferred (some [])))
      W1 hb1 ?_ ?_ ⟨hI1, ⟨fun h => by have := hS _ h; omega, fun h => by have := hS _ h; omega⟩, hL1, hK1⟩).mono ?_
    · -- it abides
      rintro k O O' A B ⟨hi, hn, hl, hk⟩ hkp hO hO'
      have n0 : ¬ O' w.heap.size := fun h => by
        rcases hO' _ h with h | h
        · exact hn.1 h
        · have := (Array.getElem?_eq_some_iff.1 hk).1; omega
      have n1 : ¬ O' (w.heap.size + 1) := fun h => by
        rcases hO' _ h with h | h
        · exact hn.2 h
        · have := (Array.getElem?_eq_some_iff.1 hl).1; omega
      refine ⟨hI k (up O) (up O') A B hi (hkp.mono fun b _ h => .inl h) (fun b h => h.elim (fun h => .inl (hO b h)) .inr) (fun b h => ?_), ⟨n0, n1⟩, hkp.heap hl n1, hkp.heap hk n0⟩
      rcases h with h | h
      · rcases hO' b h with h | h
        · exact .inl (.inl h)
        · exact .inr h
      · exact .inl (.inr h)
    · -- one round
      rintro k x O W hlen hSO ⟨hi, hn, hl, hk⟩
      have hlt : w.heap.size + 1 < W.heap.size := (Array.getElem?_eq_some_iff.1 hl).1
      have hy := run_yield (P := P) (args := enc x) hl (by rw [hrec]; exact hps _)
      rw [hrec] at hy
      refine ⟨fn, _, assign, body, hy, roundIn_of_wpIn hfn (wpIn_mono (hround _ (up O) k x W hlen hi (fun b h => .inl (hSO b h)) (.inr (.inr rfl)) hlt) ?_)⟩
      intro e1 a1 W1 h1
      cases e1
      case normal =>
       obtain ⟨hkp, hi1, hbd⟩ := h1
       have hl1 := hkp.heap hl (fun h => h.1 (.inr (.inr rfl)))
       have hk1 := hkp.heap hk (fun h => h.1 (.inr (.inl rfl)))
       have hlt1 := (Array.getElem?_eq_some_iff.1 hl1).1
       refine ⟨_, run_beginRound hl1 (by rw [hrec]), ?_⟩
       have hl2 : (W1.putObj (w.heap.size + 1) (.loop { rec .ready none with state := .busy })).heap[w.heap.size + 1]? = some (.loop { rec .ready none with state := .busy }) := World.putObj_heap_same hlt1
       have hk2 : (W1.putObj (w.heap.size + 1) (.loop { rec .ready none with state := .busy })).heap[w.heap.size]? = some (.deferred (some [])) := (World.putObj_heap_other (by omega)).trans hk1
       refine wpIn_mono (hbd _ (Keeps.putObj _ _ _ rfl) ?_) ?_
       · exact hI k (up O) (up O) W1 _ hi1 (Keeps.putObj _ _ _ (.inr (.inr rfl))) (fun _ h => h) (fun _ h => .inl h)
       rintro e a3 W3 ⟨rfl, hi3, hk3⟩
       have hl3 := hk3.heap hl2 (fun h => h.1 (.inr (.inr rfl)))
       have hk3' := hk3.heap hk2 (fun h => h.1 (.inr (.inl rfl)))
       have hr := run_endRound (P := P) none hl3
       have hx : ¬ O (w.heap.size + 1) ∧ ¬ R (w.heap.size + 1) := ⟨hn.2, fun h => by have := hR _ h; omega⟩
       refine ⟨_, _, hr, rfl, ⟨hI (k ++ [x]) (up O) (up O) W3 _ hi3 (Keeps.putObj _ _ _ (.inr (.inr rfl))) (fun _ h => h) (fun _ h => .inl h), hn, ?_, (World.putObj_heap_other (by omega)).trans hk3'⟩, ?_⟩
       · rw [World.putObj_heap_same (Array.getElem?_eq_some_iff.1 hl3).1, hrec]; rfl
       · exact (((hkp.mono fun b _ h => ⟨fun hb => h.1 (.inl hb), h.2⟩).trans (Keeps.putObj W1 (w.heap.size + 1) _ (O := fun b => ¬ O b ∧ ¬ R b) hx)).trans (hk3.mono fun b _ h => ⟨fun hb => h.1 (.inl hb), h.2⟩)).trans (Keeps.putObj _ _ _ hx)
      all_goals exact h1.elim
    · -- behind the iterator
      rintro e W2 ⟨⟨v, rfl⟩, O, xs, hall, hSO, hi, hn, hl, hk⟩
      refine ⟨none, _, by have := run_endLoop (P := P) hl (by rw [hrec]; simp); rw [hrec] at this; exact this, ?_⟩
      exact hdone _ (up O) xs _ hall (hI _ (up O) (up O) W2 _ hi (Keeps.putObj _ _ _ (.inr (.inr rfl))) (fun _ h => h) (fun _ h => .inl h)) (fun b h => .inl (hSO b h)) (.inr (.inl rfl)) (Nat.le_refl _) ((World.putObj_heap_other (by omega)).trans hk)
end Go.Proofs.Ytpjlihkpnhamlaa
end

/- The walks of maps.Values over costs, of its iterator, of slices.Collect and slices.Min. -/
section
set_option linter.unusedSimpArgs false
set_option linter.unusedVariables false
namespace Go.Proofs.Ytpjlihkpnhamlaa
open Go.RowKit Go.Shelf Go.Maps

set_option maxHeartbeats 400000 in
theorem values_any (b : Nat) (w : World) :
    Calls Try.prog 52 #[.map (some b)] w (fun en w' => en = .returned (.func (.func 61) #[] #[.pointer (some ⟨w.heap.size, 0, none⟩)]) ∧ w' = w.alloc (.cells #[.map (some b)] 95)) := by
  go_enter Try.func52, Try.ntmps52
  go_wp2
  go_ret
  exact ⟨rfl, rfl⟩

def ValsPart {κ : Type} (n : Nat) (f : κ → Option Int) (xs : List Int) : Prop := xs.length ≤ n ∧ ∀ c ∈ xs, ∃ d, f d = some c
def ValsAll {κ : Type} (n : Nat) (f : κ → Option Int) (xs : List Int) : Prop := ValsPart n f xs ∧ ∀ d c, f d = some c → c ∈ xs
def ValsRel (J : List Int → (Nat → Prop) → World → Prop) (b it n : Nat) (O : Nat → Prop) (f : Pu.Dl → Option Int) (wr : World) : Prop :=
  ∃ left cnt pre, IRange dialE 3 wr b it n f left cnt ∧ pre.length + cnt ≤ n ∧ (∀ c ∈ pre, ∃ d, f d = some c) ∧ (∀ d c, f d = some c → ¬ left d → c ∈ pre) ∧ J pre O wr

set_option maxHeartbeats 1000000 in
theorem values1_iter (b n Bm : Nat) (f : Pu.Dl → Option Int) (W0 : World) (h : IMap dialE 3 W0 b n f) (hB : Blk W0 Bm #[.map (some b)] 95) (hne : Bm ≠ b) :
    IteratesP Try.prog 61 #[.pointer (some ⟨Bm, 0, none⟩)] (ValsPart n f) (ValsAll n f) (fun c : Int => #[.int .i64 c]) (fun x => x = Bm) (fun x => x = b) W0 := by
  intro L J W hW hJ hY hJ0
  have hbw : b < W.heap.size := Nat.lt_of_lt_of_le h.lt hW.size
  have hBw : Bm < W.heap.size := Nat.lt_of_lt_of_le hB.lt hW.size
  have HM := Lib.hid (h.below hW)
  have c0 := (hB.below hW).cell 0 rfl
  have hY' := Lib.hid hY; clear hY
  clear h hB
  (refine callsIn_of_wp Try.func61 rfl trivial ?_ rfl; simp only [Try.ntmps61, List.size_toArray, List.length_cons, List.length_nil, Nat.reduceAdd, Nat.reduceSub, Array.replicate_succ, Array.replicate_zero, List.push_toArray, List.append_toArray, List.nil_append, List.cons_append])
  gi_wp2_with (gi_at_range; refine wpListIn_imap_range dialE _ rfl _ 95 rfl 3 Try.underlying95 b n f rfl HM.out ?_; intro w0 cnt0 hrg0 hcn0 hb0 hs0)
  obtain ⟨O1, hO1⟩ : ∃ O1 : Nat → Prop, O1 = fun x => x = Bm ∨ x = W.heap.size := ⟨_, rfl⟩
  have j1 : J [] O1 w0 := hJ _ _ _ _ _ hJ0 (Keeps.below hb0) (fun x hx => by rw [hO1]; exact .inl hx) (fun x hx => by rw [hO1] at hx; rcases hx with h | h; exact .inl h; right; omega)
  have R0 : ValsRel J b W.heap.size n O1 f w0 := ⟨_, cnt0, [], hrg0, by simpa using hcn0, fun c hc => (by cases hc), fun d c h1 h2 => absurd ⟨c, h1⟩ h2, j1⟩
  clear hrg0 hcn0 hb0 hs0 j1 hJ0
  try go_frame
  gi_loopw [4] (fun _ wr => ValsRel J b W.heap.size n O1 f wr) (fun _ wr => wr.rangeLeft b W.heap.size)
  case atStart => exact R0
  case round =>
    obtain ⟨left, cnt, pre, hrg, hlen, hp1, hp2, hj⟩ := hrel
    have HR := Lib.hid hrg; have HJ := Lib.hid hj; have H1 := Lib.hid hp1; have H2 := Lib.hid hp2
    clear hrg hj hp1 hp2 R0
    gi_wp2_with (gi_at_next; refine wpListIn_imap_next dialE _ rfl _ rfl 3 Try.underlying3 b W.heap.size n f left cnt rfl HR.out ?_ ?_)
    · intro hdone
      gi_wp2_with fail
      go_end0
      exact ⟨⟨_, rfl⟩, O1, pre, ⟨⟨by omega, H1.out⟩, fun d c hd => H2.out d c hd (hdone d (HR.out.owns.ok hd).1)⟩, fun x hx => by rw [hO1]; exact .inl hx, HJ.out⟩
    · intro d x w2 cnt2 hd hfd hld hrg2 hlt2 hk2 hs2 hen
      obtain ⟨s, k⟩ := d
      simp only [dialE_kv] at hen ⊢
      have j2 : J pre O1 w2 := hJ _ O1 O1 _ _ HJ.out (hk2.mono fun y _ h => by rw [hO1]; exact .inr h) (fun _ h => h) (fun _ h => .inl h)
      have hpart : ValsPart n f (pre ++ [x]) := ⟨by simp; omega, fun c hc => by
        rcases List.mem_append.1 hc with h | h
        · exact H1.out c h
        · simp at h; subst h; exact ⟨_, hfd⟩⟩
      obtain ⟨fn, tmps, asg, bdy, hy, hR⟩ := hY'.out pre x O1 w2 hpart (fun y hy => by rw [hO1]; exact .inl hy) j2
      have HRR := Lib.hid hR
      clear hs2 hR
      gi_wp2_with fail
      refine ⟨rfl, HRR.out.mono ?_⟩
      rintro en W4 ⟨rfl, hj4, hk4⟩
      have hb4 : ¬(¬O1 b ∧ ¬ b = b) := fun h => h.2 rfl
      have hi4 : ¬(¬O1 W.heap.size ∧ ¬ W.heap.size = b) := fun h => h.1 (by rw [hO1]; exact .inr rfl)
      have hr4 := hrg2.keeps hk4 hb4 hi4
      clear hrg2 hk4 HRR hy hen
      gi_wp2_with fail
      refine ⟨⟨_, cnt2, pre ++ [x], hr4, by simp; omega, fun c hc => ?_, fun d' c h1 h2 => ?_, hj4⟩, by rw [hr4.left_eq, HR.out.left_eq]; exact hlt2⟩
      · rcases List.mem_append.1 hc with h | h
        · exact H1.out c h
        · simp at h; subst h; exact ⟨_, hfd⟩
      · by_cases q : d' = ⟨s, k⟩
        · subst q; rw [hfd] at h1; cases h1; simp
        · exact List.mem_append.2 (.inl (H2.out d' c h1 (fun h => h2 ⟨h, q⟩)))
end Go.Proofs.Ytpjlihkpnhamlaa
end

/- Slices of the call's own, which grow by append. -/
section
set_option linter.unusedSimpArgs false
set_option linter.unusedVariables false
namespace Go.Proofs.Ytpjlihkpnhamlaa
open Go.RowKit Go.Shelf

theorem owns_heap {w w' : World} {base : Nat} {e : TypeId} {size n : Nat} {v : Value} {xs : List Value} (h : w.ownsRow base e size v n xs) (hh : ∀ g, v.ownBlock = some g → w'.heap[g]? = w.heap[g]?) : w'.ownsRow base e size v n xs := by
  refine ⟨h.1, ?_⟩
  rcases h.2 with h1 | ⟨g, cap, cur, rfl, h2, h3, h4⟩
  · exact .inl h1
  · exact .inr ⟨g, cap, cur, rfl, h2, (hh g rfl).trans h3, h4⟩
theorem owns_below {w w' : World} {base : Nat} {e : TypeId} {size n : Nat} {v : Value} {xs : List Value} (h : w.ownsRow base e size v n xs) (hb : Below w.heap.size w w') : w'.ownsRow base e size v n xs :=
  owns_heap h (fun g hg => hb.block g (h.lt g hg).2)
theorem owns_keeps {w w' : World} {O : Nat → Prop} {base : Nat} {e : TypeId} {size n : Nat} {v : Value} {xs : List Value} (h : w.ownsRow base e size v n xs) (hk : Keeps O w w') (hO : ∀ g, v.ownBlock = some g → ¬ O g) : w'.ownsRow base e size v n xs :=
  owns_heap h (fun g hg => hk.same g (h.lt g hg).2 (hO g hg))
theorem owns_len {w : World} {base : Nat} {e : TypeId} {size n : Nat} {v : Value} {xs : List Value} (h : w.ownsRow base e size v n xs) : ∃ a cp, v = .slice a n cp ∧ n ≤ cp := by
  rcases h.2 with ⟨rfl, rfl⟩ | ⟨g, cap, cur, rfl, h2, h3, h4, h5, h6, h7⟩
  · exact ⟨_, _, rfl, Nat.le_refl _⟩
  · exact ⟨_, _, rfl, h4⟩
theorem owns_ints {w : World} {base : Nat} {e : TypeId} {v : Value} {zs : List Int} (h : w.ownsRow base e 1 v zs.length (zs.map (Value.int .i64))) (hl : zs.length ≤ 140737488355327) : ∃ a cp, v = .slice a zs.length cp ∧ zs.length ≤ cp ∧ IsInts w a zs := by
  have hcells := @World.ownsRow.cells
  have h' := h
  rcases h.2 with ⟨rfl, h0⟩ | ⟨g, cap, cur, rfl, h2, h3, h4, h5, h6, h7⟩
  · refine ⟨none, 0, by rw [h0], by omega, hl, fun i hi => by omega⟩
  · refine ⟨_, cap, rfl, h4, hl, fun i hi => ⟨g, 0, rfl, (Array.getElem?_eq_some_iff.1 h3).1, ?_⟩⟩
    have := h'.cells (g := g) rfl i (.int .i64 zs[i]) (by simp [hi])
    rcases i with _ | i <;> simpa [Addr.add] using this
/-- the cells of a slice value, from its first on: nothing is asked where there are none -/
def CellsAt (w : World) (a : Option Addr) (xs : List Value) : Prop := xs ≠ [] → ∃ b o, a = some ⟨b, o, none⟩ ∧ b < w.heap.size ∧ ∀ j u, xs[j]? = some u → w.cell? ⟨b, o + j, none⟩ = some u
theorem CellsAt.below {w w' : World} {a : Option Addr} {xs : List Value} (h : CellsAt w a xs) (hb : Below w.heap.size w w') : CellsAt w' a xs := fun hn => by
  obtain ⟨b, o, e, hlt, hc⟩ := h hn
  exact ⟨b, o, e, Nat.lt_of_lt_of_le hlt hb.size, fun j u hu => by rw [hb.cell (p := ⟨b, o + j, none⟩) hlt]; exact hc j u hu⟩
theorem owns_cells {w : World} {base : Nat} {e : TypeId} {size n c : Nat} {a : Option Addr} {xs : List Value} (h : w.ownsRow base e size (.slice a n c) n xs) : CellsAt w a xs := fun hn => by
  have h' := h
  rcases h.2 with ⟨h1, h0⟩ | ⟨g, cap, cur, h1, h2, h3, h4, h5, h6, h7⟩
  · have := h.1; rw [h0] at this; simp at this; exact absurd this hn
  · injection h1 with h1
    subst h1
    refine ⟨g, 0, rfl, (Array.getElem?_eq_some_iff.1 h3).1, fun j u hu => ?_⟩
    have := h'.cells (g := g) rfl j u hu
    rcases j with _ | j <;> simpa [Addr.add] using this
theorem addr_at (b o j : Nat) : (⟨b, o, none⟩ : Addr).add j = ⟨b, o + j, none⟩ := by
  rcases j with _ | j <;> simp [Addr.add]
section
variable {P : Program} (w : World)
/-- an append of whatever slice came in, none too -/
theorem run_append_list (base : Nat) (t ty e : TypeId) (i : TypeInfo) (z : Value) (size bytes : Nat) (ht : P.underlying t = some (.slice e)) (hi : P.info? e = some i) (hz : i.zero = some z)
    (hsize : i.size = size) (hby : i.bytes = bytes) (hzs : z.cells.size = size) (hsz : 0 < size) (v : Value) (n : Nat) (xs : List Value) (hown : w.ownsRow base e size v n xs)
    (A : Option Addr) (m c : Nat) (news : List Value) (hc : CellsAt w A news) (hl : news.length = m * size) (h1 : ∀ u ∈ news, u.oneCell' = true) (h63 : n + m ≤ maxLen) (hbytes : (n + m) * bytes ≤ 140737488355328) (hbase : base ≤ w.heap.size) :
    ∃ v' w', (Builtin.append_ #[t, t] ty #[v, .slice A m c]).run P w = .ok v' w' ∧ w'.ownsRow base e size v' (n + m) (xs ++ news) ∧ w.grownBy w' v.ownBlock ∧ (v'.ownBlock = v.ownBlock ∨ v'.ownBlock = some w.heap.size) := by
  by_cases hn : news = []
  · have hm : m = 0 := by
      rw [hn] at hl
      rcases Nat.eq_zero_or_pos m with q | q
      · exact q
      · have := Nat.mul_pos q hsz
        simp at hl
        omega
    subst hm hn
    cases A with
    | some ad =>
      obtain ⟨v', w', hr, h2, h3, _, h5⟩ := run_append_own_at (P := P) w base t ty e i z size bytes ht hi hz hsize hby hzs hsz v n xs hown ad 0 c [] (by simp) (by simp) (by simp) h63 hbytes hbase
      exact ⟨v', w', hr, h2, h3, h5⟩
    | none =>
      refine ⟨v, w, ?_, by simpa using hown, World.grownBy.refl w _, .inl rfl⟩
      rcases hown.2 with ⟨rfl, rfl⟩ | ⟨g, cap, cur, rfl, _, _, hnc, _⟩
      · simp [Builtin.append_, run_underlying ht, sizeOf, typeInfo, hi, Builtin.lenOf, Builtin.firstCells]
      · simp [Builtin.append_, run_underlying ht, sizeOf, typeInfo, hi, Builtin.lenOf, Builtin.firstCells, hnc, storeCells]
  · obtain ⟨b, o, rfl, hlt, hcells⟩ := hc hn
    obtain ⟨v', w', hr, h2, h3, _, h5⟩ := run_append_own_at (P := P) w base t ty e i z size bytes ht hi hz hsize hby hzs hsz v n xs hown ⟨b, o, none⟩ m c news hl (fun j u hu => by rw [addr_at]; exact hcells j u hu) h1 h63 hbytes hbase
    exact ⟨v', w', hr, h2, h3, h5⟩
theorem wpList_append_list {ops : Array Oper} {rest : List Oper} {o : Oper} {a : Act} {Q : Exit → Act → World → Prop} (hgd : o.guard = none) (s x : Operand) (t : TypeId)
    (ho : o.op = .call { callee := .builtin .append, args := #[s, x], argTypes := #[t, t] })
    (base : Nat) (e : TypeId) (i : TypeInfo) (z : Value) (size bytes : Nat) (ht : P.underlying t = some (.slice e)) (hi : P.info? e = some i) (hz : i.zero = some z)
    (hsize : i.size = size) (hby : i.bytes = bytes) (hzs : z.cells.size = size) (hsz : 0 < size) (v : Value) (n : Nat) (xs : List Value) (hs : a.eval s = v) (hown : w.ownsRow base e size v n xs)
    (A : Option Addr) (m c : Nat) (news : List Value) (hx : a.eval x = .slice A m c) (hc : CellsAt w A news) (hl : news.length = m * size) (h1 : ∀ u ∈ news, u.oneCell' = true) (h63 : n + m ≤ maxLen) (hbytes : (n + m) * bytes ≤ 140737488355328) (hbase : base ≤ w.heap.size)
    (h : ∀ a' cp' w', w'.ownsRow base e size (.slice a' (n + m) cp') (n + m) (xs ++ news) → n + m ≤ cp' → w.grownBy w' v.ownBlock → ((Value.slice a' (n + m) cp').ownBlock = v.ownBlock ∨ (Value.slice a' (n + m) cp').ownBlock = some w.heap.size) → wpList P ops Q rest (a.put o.dst (.slice a' (n + m) cp')) w') :
    wpList P ops Q (o :: rest) a w := by
  refine wpList_plain hgd fun K hK => ?_
  obtain ⟨v', w', hr, h2, h3, h4⟩ := run_append_list (P := P) w base t o.type e i z size bytes ht hi hz hsize hby hzs hsz v n xs hown A m c news hc hl h1 h63 hbytes hbase
  obtain ⟨a', cp', rfl, hle⟩ := owns_len h2
  unfold Oper.wp execOp
  simp only [ho, resolve, invoke, builtin, Sem.run_bind, Sem.run_pure, Result.andThen_ok, List.map_toArray, List.map_cons, List.map_nil, hs, hx, hr]
  exact hK _ _ (h a' cp' w' h2 hle h3 h4)
end
end Go.Proofs.Ytpjlihkpnhamlaa
end

/- The walks of slices.AppendSeq, slices.Collect and slices.Min over ints. -/
section
set_option linter.unusedSimpArgs false
set_option linter.unusedVariables false
namespace Go.Proofs.Ytpjlihkpnhamlaa
open Go.RowKit Go.Shelf Go.Maps

theorem info_int : (Try.prog.info? 3).map (fun i => (i.zero, i.size, i.bytes)) = some (some (.int .i64 0), 1, 8) := by kernel_rfl
structure CollI (S : Nat → Prop) (w : World) (pre : List Int) (O : Nat → Prop) (W : World) : Prop where
  low : Keeps O w W
  up : ∀ b, O b → S b ∨ w.heap.size + 1 ≤ b
  big : w.heap.size + 1 ≤ W.heap.size
  old : ∀ b, O b → b < W.heap.size
  box : ∃ v, Blk W w.heap.size #[v] 100 ∧ W.ownsRow (w.heap.size + 1) 3 1 v pre.length (pre.map (Value.int .i64)) ∧ ∀ g, v.ownBlock = some g → ¬ O g
theorem collI_abide {S : Nat → Prop} {w : World} (hS : ∀ b, S b → b < w.heap.size) : AbideP (CollI S w) := by
  rintro pre O O' W W' ⟨h1, h2, h3, h7, ⟨v, h4, h5, h6⟩⟩ hk hO hO'
  have hu : ∀ b, O' b → S b ∨ w.heap.size + 1 ≤ b := fun b h => by
    rcases hO' b h with h | h
    · exact h2 b h
    · exact .inr (by omega)
  have hv : ∀ g, v.ownBlock = some g → ¬ O' g := fun g hg h => by
    rcases hO' _ h with h | h
    · exact h6 g hg h
    · have := (h5.lt g hg).2; omega
  refine ⟨(h1.mono fun b _ h => hO b h).trans hk, hu, Nat.le_trans h3 hk.size, fun b h => by rcases hO' b h with h | h; exact Nat.lt_of_lt_of_le (h7 b h) hk.size; exact h.2, v, hk.blk h4 (fun h => ?_), owns_keeps h5 hk hv, hv⟩
  rcases hu _ h with h | h
  · have := hS _ h; omega
  · omega

def CollPost (S : Nat → Prop) (All : List Int → Prop) (w : World) (en : Ending) (w' : World) : Prop :=
  ∃ a cp xs, All xs ∧ en = .returned (.slice a xs.length cp) ∧ xs.length ≤ cp ∧ IsInts w' a xs ∧ Keeps S w w'

attribute [local go_sem] Oper.semAt_some
set_option maxRecDepth 100000 in
set_option maxHeartbeats 2000000 in
theorem appendSeq_any (gf : Nat) (lb : Array Value) (Part All : List Int → Prop) (S R : Nat → Prop) (N : Nat) (w : World) (hN : N ≤ 17592186044415) (hP : ∀ xs, Part xs → xs.length ≤ N) (hA : ∀ xs, All xs → xs.length ≤ N)
    (eg : ∀ args w, (callFunc gf args).run Try.prog w = .ok (.enter gf args) w)
    (hS : ∀ b, S b → b < w.heap.size) (hR : ∀ b, R b → b < w.heap.size) (hit : IteratesP Try.prog gf lb Part All (fun c : Int => #[.int .i64 c]) S R w) :
    Calls Try.prog 60 #[.slice none 0 0, .func (.func gf) #[] lb] w (CollPost S All w) := by
  have hit' : IteratesP Try.prog gf lb Part All (fun c : Int => #[.int .i64 c]) S R (w.alloc (.cells #[.slice none 0 0] 100)) := fun L J W hW => hit L J W (((Below.refl _ w).alloc (Nat.le_refl _) _).trans (hW.mono (by simp)))
  have HIT := Lib.hid hit'; clear hit hit'
  obtain ⟨i0, hinf, hz0, hz1, hz2⟩ := info_parts info_int
  have ha := collI_abide (w := w) hS
  have HA := Lib.hid ha; clear ha
  have I0 : CollI S w [] S (w.alloc (.cells #[.slice none 0 0] 100)) := ⟨Keeps.alloc _ _ _, fun b h => .inl h, by simp, fun b h => by have := hS b h; simp; omega, .slice none 0 0, (by repeat first | exact blk_at (by first | rfl | omega | (simp; done) | (simp; omega)) | assumption | refine Blk.alloc ?_ _ | refine Blk.drew ?_ | refine Blk.drewN ?_ _ | (refine Blk.other ?_ _ (by first | omega | (simp; done) | (simp; omega))) | (refine Blk.below ?_ (by assumption))), World.ownsRow_nil _ _ _ _, fun g hg => by cases hg⟩
  have HI0 := Lib.hid I0; clear I0
  (refine (callsIn_wide (n := 0)).1 (callsIn_of_wp_marks Try.func60 rfl trivial (wpIn_wide.2 ?_)); simp only [Try.ntmps60, List.size_toArray, List.length_cons, List.length_nil, Nat.reduceAdd, Nat.reduceSub, Array.replicate_succ, Array.replicate_zero, List.push_toArray, List.append_toArray, List.nil_append, List.cons_append])
  go_wp2_with fail
  refine (wpIn_wide (n := 0)).1 (rangeFunc_wideP (gf := gf) (lb := lb) (by rfl) eg HIT.out (fun b h => by have := hS b h; simp; omega) (fun b h => by have := hR b h; simp; omega) (fun x => rfl) (CollI S w) HA.out HI0.out ?_ ?_)
  · intro l O pre x W hpart hi hSO hOl hlW
    have hlen := hP _ hpart
    simp only [List.length_append, List.length_cons, List.length_nil] at hlen
    rw [foldp1]
    simp only [List.setIfInBounds_toArray, List.set_cons_succ, List.set_cons_zero]
    gi_wp2_with fail
    refine ⟨Keeps.refl _ _, hi, ?_⟩
    intro W2 hk2 hi2
    obtain ⟨v, hv1, hv2, hv3⟩ := hi2.box
    have c0 := hv1.cell 0 rfl
    have f0 := hv1.free
    have hbig := hi2.big
    have HI2 := Lib.hid hi2
    have HV := Lib.hid hv2
    have nB : ¬ O w.heap.size := fun h => by rcases hi2.up _ h with h | h; have := hS _ h; omega; omega
    have nv : v.ownBlock ≠ some w.heap.size := fun h => by have := (hv2.lt _ h).1; omega
    clear hi2 hv2
    gi_wp2_with (gi_at_builtin; go_must (refine wpListIn_append_own_at _ rfl _ _ 100 rfl (w.heap.size + 1) 3 i0 (.int .i64 0) 1 8 Try.underlying100 hinf hz0 hz1 hz2 rfl (by decide) _ _ _ rfl (HV.out.alloc _) ⟨W2.heap.size, 0, none⟩ 1 1 [.int .i64 x] rfl rfl (cell_one_new _ _ _) (by simp [Value.oneCell']) (by unfold maxLen; omega) (by omega) (by simp; omega) ?_); intro v' w3 hown' hg3 hnil3 hat3; have HAT := Lib.hid hat3; clear hnil3 hat3; obtain ⟨a3, cp3, rfl, hle3⟩ := owns_len hown'; go_must (have B3 : Blk w3 w.heap.size #[v] 100 := (hg3.block _ (by simp; omega) (fun h => nv h.symm)).trans ((Below.heap_alloc _ _ _ (by omega)).trans hv1); have c3 := B3.cell 0 rfl; have f3 := B3.free; have HG3 := Lib.hid hg3; have HO3 := Lib.hid hown'; clear hg3 hown' nv))
    have hrow := HO3.out
    have hgr := HG3.out
    have hkk : Keeps (fun b => w.heap.size + 1 ≤ b) W2 w3 := (Keeps.alloc _ _ _).trans ((Keeps.grown _ hgr).mono fun b _ h => (HV.out.lt b h.symm).1)
    have hk4 : Keeps (fun b => w.heap.size ≤ b) W2 (w3.setCell ⟨w.heap.size, 0, none⟩ (.slice a3 (pre.length + 1) cp3)) := (hkk.mono fun b _ h => by omega).trans (Keeps.setCell _ _ _ (Nat.le_refl _))
    have hnew : ∀ g, (Value.slice a3 (pre.length + 1) cp3).ownBlock = some g → ¬ O g := fun g hg hO => by
      rcases HAT.out with h | h
      · rw [h] at hg; exact hv3 g hg hO
      · rw [h] at hg; cases hg
        have := HI2.out.old _ hO
        simp at this
        omega
    refine ⟨⟨⟨HI2.out.low.low.trans hk4.low, fun b hb hO => (hk4.same b (Nat.lt_of_lt_of_le hb HI2.out.low.size) (by omega)).trans (HI2.out.low.same b hb hO)⟩, HI2.out.up, Nat.le_trans hbig hk4.size, fun b hb => Nat.lt_of_lt_of_le (HI2.out.old b hb) hk4.size, .slice a3 (pre.length + 1) cp3, ?_, ?_, hnew⟩, ?_⟩
    · have := B3.set 0 (.slice a3 (pre.length + 1) cp3)
      simpa using this
    · have := owns_keeps hrow (Keeps.setCell (O := fun b => b = w.heap.size) w3 ⟨w.heap.size, 0, none⟩ (.slice a3 (pre.length + 1) cp3) rfl) (fun g hg h => by have := (hrow.lt g hg).1; omega)
      simpa using this
    · have hk5 : Keeps (fun b => some b = v.ownBlock ∨ b = w.heap.size) W2 (w3.setCell ⟨w.heap.size, 0, none⟩ (.slice a3 (pre.length + 1) cp3)) := ((Keeps.alloc _ _ _).trans ((Keeps.grown _ hgr).mono fun b _ h => .inl h)).trans (Keeps.setCell _ _ _ (.inr rfl))
      refine hk5.mono fun b hb h => ?_
      rcases h with h | h
      · exact ⟨hv3 b h.symm, fun hRb => by have := hR b hRb; have := (HV.out.lt b h.symm).1; omega⟩
      · subst h; exact ⟨nB, fun hRb => by have := hR _ hRb; omega⟩
  · intro D O xs W hall hi hSO hOD hD hDW
    obtain ⟨v, hv1, hv2, hv3⟩ := hi.box
    have c0 := hv1.cell 0 rfl
    simp only [Exit.inBlock, Exit.then]
    obtain ⟨a, cp, rfl, hle, hints⟩ := owns_ints hv2 (by have := hA xs hall; omega)
    have hDw : D ≠ w.heap.size := fun h => by rcases hi.up D hOD with h' | h'; have := hS D h'; omega; omega
    go_wp2_with fail
    have hk1 : Keeps (fun b => b = D) W (W.putObj D (.deferred none)) := Keeps.putObj _ _ _ rfl
    have hDl : w.heap.size + 1 ≤ D := by simpa using hD
    refine leave_mark (v := .slice a xs.length cp) rfl hDW (by simp [results, Try.results60, go_sem]) ⟨a, cp, xs, hall, rfl, hle, ⟨hints.1, fun i hi' => ?_⟩, ⟨hi.low.low.trans hk1.low, fun b hb hO => (hk1.same b (Nat.lt_of_lt_of_le hb hi.low.size) (by omega)).trans (hi.low.same b hb (fun h => by rcases hi.up b h with h' | h'; exact hO h'; omega))⟩⟩
    obtain ⟨b, o, e, hlt, hc⟩ := hints.2 i hi'
    refine ⟨b, o, e, by simpa using hlt, ?_⟩
    have hbD : b ≠ D := fun h => by
      subst h
      exact hv3 b (by rw [e]; rfl) hOD
    rw [World.cell?_of_block (w := W) (hk1.same b hlt hbD)]
    exact hc

set_option maxHeartbeats 400000 in
theorem collect_any (gf : Nat) (lb : Array Value) (Part All : List Int → Prop) (S R : Nat → Prop) (N : Nat) (w : World) (hN : N ≤ 17592186044415) (hP : ∀ xs, Part xs → xs.length ≤ N) (hA : ∀ xs, All xs → xs.length ≤ N)
    (eg : ∀ args w, (callFunc gf args).run Try.prog w = .ok (.enter gf args) w)
    (hS : ∀ b, S b → b < w.heap.size) (hR : ∀ b, R b → b < w.heap.size) (hit : IteratesP Try.prog gf lb Part All (fun c : Int => #[.int .i64 c]) S R w) :
    Calls Try.prog 51 #[.func (.func gf) #[] lb] w (CollPost S All w) := by
  have H := Lib.hid (appendSeq_any gf lb Part All S R N w hN hP hA eg hS hR hit)
  clear hN hP hA eg hS hR hit
  go_enter Try.func51, Try.ntmps51
  go_wp2_with ((refine H.out.mono ?_); rintro en w1 ⟨a, cp, xs, hall, rfl, hle, hints, hk⟩)
  go_ret
  exact ⟨a, cp, xs, hall, rfl, hle, hints, hk⟩

/-- the least of a list -/
def minL : List Int → Int → Int
  | [], m => m
  | x :: tl, m => minL tl (min m x)
theorem minL_snoc (x : Int) : ∀ (l : List Int) (m : Int), minL (l ++ [x]) m = min (minL l m) x
  | [], m => rfl
  | y :: tl, m => minL_snoc x tl (min m y)
theorem minL_le : ∀ (l : List Int) (m : Int), minL l m ≤ m ∧ (∀ x ∈ l, minL l m ≤ x) ∧ (minL l m = m ∨ minL l m ∈ l)
  | [], m => ⟨Int.le_refl _, fun x hx => (by cases hx), .inl rfl⟩
  | y :: tl, m => by
    obtain ⟨h1, h2, h3⟩ := minL_le tl (min m y)
    simp only [minL]
    refine ⟨by omega, fun x hx => ?_, ?_⟩
    · rcases List.mem_cons.1 hx with rfl | hx
      · omega
      · exact h2 x hx
    · rcases h3 with h | h
      · by_cases q : m ≤ y
        · left; omega
        · right; rw [show min m y = y by omega] at h ⊢; rw [h]; simp
      · exact .inr (List.mem_cons_of_mem _ h)

set_option maxHeartbeats 400000 in
theorem min_any (a : Option Addr) (cp : Nat) (x : Int) (zs : List Int) (w : World) (h : IsInts w a (x :: zs)) :
    Calls Try.prog 50 #[.slice a (x :: zs).length cp] w (Ret w (.int .i64 (minL zs x))) := by
  have hlen := h.1
  obtain ⟨b, o, rfl, hlt, hc0⟩ := h.2 0 (by simp)
  simp only [List.length_cons, List.getElem_cons_zero, Nat.add_zero] at hc0 hlen ⊢
  have hcs : ∀ i (hi : i < zs.length), w.cell? ⟨b, o + (i + 1), none⟩ = some (.int .i64 zs[i]) := fun i hi => by
    obtain ⟨b', o', e, _, hc⟩ := h.2 (i + 1) (by simp; omega)
    obtain ⟨rfl, rfl⟩ : b = b' ∧ o = o' := by simpa using e
    simpa using hc
  have HC := Lib.hid hcs; clear hcs h
  go_enter Try.func50, Try.ntmps50
  go_wp2
  go_loop [4, 3] (fun i m => ∃ k : Nat, k ≤ zs.length ∧ i = .int .i64 ((k : Int) + 1) ∧ m = .int .i64 (minL (zs.take k) x)) (fun i _ => zs.length + 1 - (intOf i).toNat)
  case atStart => exact ⟨0, Nat.zero_le _, rfl, rfl⟩
  case round =>
    obtain ⟨k, hk, rfl, rfl⟩ := hrel
    by_cases hk2 : k < zs.length
    · have hc := HC.out k hk2
      have hm : minL (zs.take (k + 1)) x = min (minL (zs.take k) x) zs[k] := by rw [List.take_succ_eq_append_getElem hk2, minL_snoc]
      have HM := Lib.hid hm; clear hm
      have ht : ((k : Int) + 1).toNat = k + 1 := by omega
      go_wp2
      all_goals (refine ⟨⟨k + 1, by omega, by go_num, ?_⟩, by simp [intOf]; omega⟩; rw [HM.out]; (try (congr 1; omega)))
    · have hk' : zs.take k = zs := List.take_of_length_le (by omega)
      have HK := Lib.hid hk'; clear hk'
      go_wp2
      go_ret
      exact ret_int (by rw [HK.out]) (by repeat first | exact Below.refl _ _ | assumption | (refine Below.alloc ?_ (by first | omega | (simp; done) | (simp; omega)) _) | (refine Below.setCell ?_ (by first | omega | (simp; done) | (simp; omega)) _) | (refine Below.drew ?_) | (refine belowDrewN ?_) | (refine Below.trans ?_ (Below.mono (by assumption) (by first | omega | (simp; done) | (simp; omega)))))
end Go.Proofs.Ytpjlihkpnhamlaa
end

/- The walk of pulse.Fewest, where all is in order. -/
section
set_option linter.unusedSimpArgs false
set_option linter.unusedVariables false
namespace Go.Proofs.Ytpjlihkpnhamlaa
open Go.RowKit Go.Shelf Go.Maps

def NB : Nat := 7459921
theorem nb_eq : NB = 7459921 := rfl
theorem dial_bound {w : World} {b n : Nat} {f : Pu.Dl → Option Int} (h : IMap dialE 3 w b n f) (hf : ∀ d x, f d = some x → d.ok 10360) : IMap dialE 3 w b NB f :=
  h.bound NB (fun d => (d.s + 720 * d.k).toNat) (fun d c hd => by obtain ⟨h1, h2, h3, h4⟩ := hf d c hd; simp only [nb_eq]; omega) (fun d d' c c' hd hd' he => by
    obtain ⟨h1, h2, h3, h4⟩ := hf d c hd
    obtain ⟨g1, g2, g3, g4⟩ := hf d' c' hd'
    cases d; cases d'
    simp only at *
    congr 1 <;> omega)
/-- what holds on the way -/
structure FewI (w : World) (LB : Nat) (r e c : Int) (R : Pu.Dl → Int → Prop) (B : Int) (b : Nat) (g : Pu.Dl → Option Int) (W : World) : Prop where
  low : Below w.heap.size w W
  ln : Blk W LB #[.int .i64 r, .int .i64 e, .int .i64 c] 81
  mp : IMap dialE 3 W b NB g
  ne : LB ≠ b
  bl : w.heap.size ≤ b
  mn : Pu.MinOf R g
  ok : Pu.OkR B R
  
theorem FewI.vals {w : World} {LB : Nat} {r e c : Int} {R : Pu.Dl → Int → Prop} {B : Int} {b : Nat} {g : Pu.Dl → Option Int} {W : World} (h : FewI w LB r e c R B b g W) (hB : B ≤ 400000) : ∀ d x, g d = some x → d.ok 400000 ∧ 0 ≤ x ∧ x ≤ 20 := fun d x hx => by
  have h1 := (h.mn d).1 x hx
  have h2 := h.ok d x h1.1
  unfold Pu.Dl.ok at *
  omega
theorem FewI.below {w : World} {LB : Nat} {r e c : Int} {R : Pu.Dl → Int → Prop} {B : Int} {b : Nat} {g : Pu.Dl → Option Int} {W W' : World} (h : FewI w LB r e c R B b g W) (hb : Below W.heap.size W W') : FewI w LB r e c R B b g W' :=
  ⟨h.low.trans (hb.mono h.low.size), h.ln.below hb, h.mp.below hb, h.ne, h.bl, h.mn, h.ok⟩
theorem FewI.step {w : World} {LB : Nat} {r e c t : Int} {R : Pu.Dl → Int → Prop} {B : Int} {b b' n : Nat} {g g' : Pu.Dl → Option Int} {W W' : World} (h : FewI w LB r e c R B b g W) (hb : Below W.heap.size W W') (hB : 0 ≤ B) (hB2 : B + 2 ≤ 10360)
    (hm : IMap dialE 3 W' b' n g') (hmin : Pu.MinOf (Pu.Contrib ⟨r, e, c⟩ t g (fun _ => True)) g') (hn : W.heap.size ≤ b') : FewI w LB r e c (Pu.stepR ⟨r, e, c⟩ t R) (B + 2) b' g' W' := by
  have hmn := h.mn.step hmin
  have hok := h.ok.step (l := ⟨r, e, c⟩) (t := t) hB
  refine ⟨h.low.trans (hb.mono h.low.size), h.ln.below hb, dial_bound hm (fun d x hx => ?_), by have := h.ln.lt; omega, Nat.le_trans h.low.size hn, hmn, hok⟩
  have h2 := hok d x ((hmn d).1 x hx).1
  unfold Pu.Dl.ok at *
  omega
theorem FewI.filt {w : World} {LB : Nat} {r e c sh : Int} {R : Pu.Dl → Int → Prop} {B : Int} {b : Nat} {g : Pu.Dl → Option Int} {W W' : World} (h : FewI w LB r e c R B b g W) (hk : Keeps (fun y => y = b) W W') (hm : IMap dialE 3 W' b NB (Pu.keepF g sh)) : FewI w LB r e c (Pu.filtR sh R) B b (Pu.keepF g sh) W' :=
  ⟨h.low.trans (hk.to_below h.low.size (fun x hx => by rw [hx]; exact h.bl)), hk.blk h.ln h.ne, hm, h.ne, h.bl, h.mn.filt sh, h.ok.filt⟩
theorem FewI.none {w : World} {LB : Nat} {r e c : Int} {R R' : Pu.Dl → Int → Prop} {B B' : Int} {b : Nat} {g : Pu.Dl → Option Int} {W : World} (h : FewI w LB r e c R B b g W) (hR : Pu.NoneR R') (hg : ∀ d, g d = none) (ho : Pu.OkR B' R') : FewI w LB r e c R' B' b g W :=
  ⟨h.low, h.ln, h.mp, h.ne, h.bl, hR.minOf hg, ho⟩

theorem FewI.mono {w : World} {LB : Nat} {r e c : Int} {R : Pu.Dl → Int → Prop} {B B' : Int} {b : Nat} {g : Pu.Dl → Option Int} {W : World} (h : FewI w LB r e c R B b g W) (hB : B ≤ B') : FewI w LB r e c R B' b g W :=
  ⟨h.low, h.ln, h.mp, h.ne, h.bl, h.mn, fun d x hx => by have := h.ok d x hx; unfold Pu.Dl.ok at *; omega⟩
/-- between two impulses on the way to what was seen next -/
def FewIn (w : World) (LB : Nat) (r e c : Int) (R : Pu.Dl → Int → Prop) (B0 last v : Int) (b : Nat) (g : Pu.Dl → Option Int) (W : World) : Prop :=
  (∃ n : Nat, v = last + n ∧ FewI w LB r e c (Pu.stepsR ⟨r, e, c⟩ last R n) (B0 + 2 * n) b g W) ∨ ((∀ d, g d = none) ∧ FewI w LB r e c R B0 b g W)
theorem FewIn.done {w : World} {LB : Nat} {r e c : Int} {R : Pu.Dl → Int → Prop} {B0 last v At : Int} {b : Nat} {g : Pu.Dl → Option Int} {W : World} (h : FewIn w LB r e c R B0 last v b g W) (hx : v = At ∨ ∀ d, g d = none) (h1 : v ≤ At) (h2 : last ≤ At) (hO : Pu.OkR B0 R) (hB : 0 ≤ B0) :
    FewI w LB r e c (Pu.stepsR ⟨r, e, c⟩ last R (At - last).toNat) (B0 + 2 * (At - last)) b g W := by
  have hok := hO.steps (l := ⟨r, e, c⟩) (t := last) hB (At - last).toNat
  rw [show B0 + 2 * ((At - last).toNat : Int) = B0 + 2 * (At - last) by omega] at hok
  rcases h with ⟨n, rfl, h⟩ | ⟨hg, h⟩
  · rcases hx with hx | hx
    · rw [show (At - last).toNat = n by omega]
      exact h.mono (by omega)
    · obtain ⟨k, hk⟩ : ∃ k, (At - last).toNat = n + k := ⟨(At - last).toNat - n, by omega⟩
      exact h.none (by rw [hk]; exact (h.mn.none hx).steps k) hx hok
  · refine h.none ?_ hg hok
    have := (Pu.NoneR.steps (n := 0) (l := ⟨r, e, c⟩) (t := last) (R := R) (h.mn.none hg) (At - last).toNat)
    rwa [Nat.zero_add] at this
theorem FewIn.below {w : World} {LB : Nat} {r e c : Int} {R : Pu.Dl → Int → Prop} {B0 last v : Int} {b : Nat} {g : Pu.Dl → Option Int} {W W' : World} (h : FewIn w LB r e c R B0 last v b g W) (hb : Below W.heap.size W W') : FewIn w LB r e c R B0 last v b g W' := by
  rcases h with ⟨n, h1, h2⟩ | ⟨h1, h2⟩
  · exact .inl ⟨n, h1, h2.below hb⟩
  · exact .inr ⟨h1, h2.below hb⟩
theorem FewIn.mp {w : World} {LB : Nat} {r e c : Int} {R : Pu.Dl → Int → Prop} {B0 last v : Int} {b : Nat} {g : Pu.Dl → Option Int} {W : World} (h : FewIn w LB r e c R B0 last v b g W) : IMap dialE 3 W b NB g ∧ LB ≠ b ∧ w.heap.size ≤ b ∧ Blk W LB #[.int .i64 r, .int .i64 e, .int .i64 c] 81 ∧ Below w.heap.size w W := by
  rcases h with ⟨n, h1, h2⟩ | ⟨h1, h2⟩
  · exact ⟨h2.mp, h2.ne, h2.bl, h2.ln, h2.low⟩
  · exact ⟨h2.mp, h2.ne, h2.bl, h2.ln, h2.low⟩

theorem few_min {R : Pu.Dl → Int → Prop} {g : Pu.Dl → Option Int} {n : Nat} {x : Int} {tl : List Int} (h : Pu.MinOf R g) (ha : ValsAll n g (x :: tl)) : Pu.FewSpec R (minL tl x) 0 := by
  obtain ⟨h1, h2, h3⟩ := minL_le tl x
  have hmem : minL tl x ∈ x :: tl := by rcases h3 with h | h; rw [h]; simp; exact List.mem_cons_of_mem _ h
  obtain ⟨d, hd⟩ := ha.1.2 _ hmem
  have hd2 := (h d).1 _ hd
  refine .inl ⟨rfl, hd2.2, ⟨d, hd2.1⟩, fun d' c hc => ?_⟩
  rcases Int.lt_or_le 20 c with q | q
  · omega
  · obtain ⟨c', h4, h5⟩ := (h d').2 c hc q
    have h6 := ha.2 d' c' h4
    rcases List.mem_cons.1 h6 with h | h
    · omega
    · have := h2 c' h; omega

def FewPost (l : Pu.Ln) (sh f : Int) (fs : List (Int × Int)) (w : World) (en : Ending) (w' : World) : Prop :=
  ∃ n e, en = .returned (.tuple #[.int .i64 n, .int .i64 e]) ∧ Below w.heap.size w w' ∧ Pu.FewOut l sh f fs n e

def FewOutRel (w : World) (LB : Nat) (r e c f : Int) (d0 : Pu.Dl) (fs : List (Int × Int)) (i m tt : Value) (wr : World) : Prop :=
  ∃ (k b : Nat) (g : Pu.Dl → Option Int) (v : Int), k ≤ fs.length ∧ i = .int .i64 k ∧ m = .map (some b) ∧ tt = .int .i64 v ∧
    FewI w LB r e c (Pu.seenR ⟨r, e, c⟩ (Pu.startR d0) f (fs.take k)) (360 + 2 * (Pu.lastS f (fs.take k) - f)) b g wr ∧ f ≤ v ∧ v ≤ Pu.lastS f (fs.take k) ∧ (v = Pu.lastS f (fs.take k) ∨ ∀ d, g d = none)
def FewInRel (w : World) (LB X : Nat) (r e c f : Int) (R : Pu.Dl → Int → Prop) (B0 last At sh : Int) (m tt : Value) (wr : World) : Prop :=
  ∃ (b : Nat) (g : Pu.Dl → Option Int) (v : Int), m = .map (some b) ∧ tt = .int .i64 v ∧ FewIn w LB r e c R B0 last v b g wr ∧ f ≤ v ∧ v ≤ At ∧ X ≠ b ∧ Blk wr X #[.int .i64 At, .int .i64 sh] 53
theorem Pu.lastS_ge {f : Int} : ∀ {fs : List (Int × Int)} {v : Int} (k : Nat), Pu.chkSn f v fs = true → v ≤ Pu.lastS v (fs.take k) ∧ (∀ (h : k < fs.length), Pu.lastS v (fs.take k) + 1 ≤ fs[k].1 ∧ fs[k].1 ≤ f + 5000)
  | [], v, k, _ => by simp [Pu.lastS]
  | x :: tl, v, 0, h => by
    rw [Pu.chkSn] at h
    simp only [Bool.and_eq_true, decide_eq_true_eq] at h
    exact ⟨Int.le_refl _, fun _ => h.1.1⟩
  | x :: tl, v, k + 1, h => by
    rw [Pu.chkSn] at h
    simp only [Bool.and_eq_true, decide_eq_true_eq] at h
    obtain ⟨h1, h2⟩ := Pu.lastS_ge k h.2
    refine ⟨by simp only [List.take_succ_cons, Pu.lastS]; omega, fun hk => ?_⟩
    simp only [List.take_succ_cons, Pu.lastS, List.getElem_cons_succ]
    exact h2 (by simpa using hk)
theorem Pu.seen_ok {f : Int} {fs : List (Int × Int)} (h : Pu.seenErr f fs = 0) : fs.length ≤ 40 ∧ Pu.chkSn f f fs = true := by
  unfold Pu.seenErr at h
  split at h
  · simp at h
  · split at h
    · exact ⟨by omega, by assumption⟩
    · simp at h

set_option maxRecDepth 100000 in
set_option maxHeartbeats 1000000 in
theorem fewest_ok (r e c sh f : Int) (a : Option Addr) (cp : Nat) (fs : List (Int × Int)) (w : World) (hr : (Lit.int .i64 r).wf = true) (he : (Lit.int .i64 e).wf = true) (hc : (Lit.int .i64 c).wf = true) (hf : IsPairs w a fs)
    (h1 : Pu.lineErr r e c = 0) (hm : btw 0 100000 f = true) (hs : btw 0 719 sh = true) (hk : Pu.seenErr f fs = 0) :
    Calls Try.prog 27 #[.agg #[.int .i64 r, .int .i64 e, .int .i64 c], .int .i64 sh, .int .i64 f, .slice a fs.length cp] w (FewPost ⟨r, e, c⟩ sh f fs w) := by
  have HO := Lib.hid (fun W => open_any r e c W hr he hc)
  have hok := Pu.ok_of_err h1
  rw [h1] at HO
  have hm' := btw_iff.1 hm
  have hs' := btw_iff.1 hs
  have HK := Lib.hid (fun W (hW : Below w.heap.size w W) => checkSeen_any f a cp fs W (hf.below hW) (by omega) (by omega))
  rw [hk] at HK
  have HF := Lib.hid hf
  have HS := Lib.hid (fun W => start_any r e c sh f W hok hm'.1)
  have hso := Pu.start_ok (s := sh) (t := f) hok hs'.1 (by omega) hm'.1
  obtain ⟨d0, hd0⟩ : ∃ d, Pu.start ⟨r, e, c⟩ sh f = d := ⟨_, rfl⟩
  rw [hd0] at HS hso
  have HD := Lib.hid hd0
  have HL := Lib.hid hok
  have hsk := Pu.seen_ok hk
  have HSK := Lib.hid hsk.2
  have H1 := Lib.hid h1; have HKK := Lib.hid hk
  have hlen := hsk.1
  clear h1 hf hd0 hok hk hsk
  have hmm := @run_makeMap Try.prog
  obtain ⟨s0, k0⟩ := d0
  dsimp only at HS
  have hd : dialE.ok ⟨s0, k0⟩ := dialE_ok (by have := hso.1; omega) (by have := hso.2.1; omega) (by have := hso.2.2.1; omega) (by have := hso.2.2.2; omega)
  go_enter Try.func27, Try.ntmps27
  go_wp2_with (first | (go_at_call 35; go_must (refine (HO.out _).mono ?_); rintro e w1 ⟨rfl, hb1⟩; obtain ⟨hc1, hf1, hs1⟩ := bcell hb1; have hz1 := hb1.size; (try simp at hz1); have Z1' : Below w.heap.size w w1 := Below.trans (b := _) (by repeat first | exact Below.refl _ _ | assumption | (refine Below.alloc ?_ (by first | omega | (simp; done) | (simp; omega)) _) | (refine Below.setCell ?_ (by first | omega | (simp; done) | (simp; omega)) _) | (refine Below.drew ?_) | (refine belowDrewN ?_) | (refine Below.trans ?_ (Below.mono (by assumption) (by first | omega | (simp; done) | (simp; omega))))) (Below.mono hb1 (by first | omega | (simp; done) | (simp; omega))); obtain ⟨LB, hLB⟩ : ∃ LB, w1.heap.size = LB := ⟨_, rfl⟩; have y3' : w.heap.size < LB := (by rw [← hLB]; omega)) | (go_at_call 36; go_must (refine (isMinute_any _ _).mono ?_); rintro e w1 ⟨rfl, hb1⟩; obtain ⟨hc1, hf1, hs1⟩ := bcell hb1; have hz1 := hb1.size; (try simp at hz1); have Z1' : Below w.heap.size w w1 := Below.trans (b := _) (by repeat first | exact Below.refl _ _ | assumption | (refine Below.alloc ?_ (by first | omega | (simp; done) | (simp; omega)) _) | (refine Below.setCell ?_ (by first | omega | (simp; done) | (simp; omega)) _) | (refine Below.drew ?_) | (refine belowDrewN ?_) | (refine Below.trans ?_ (Below.mono (by assumption) (by first | omega | (simp; done) | (simp; omega))))) (Below.mono hb1 (by first | omega | (simp; done) | (simp; omega))); have L1' : Blk w1 LB #[.int .i64 r, .int .i64 e, .int .i64 c] 81 := Blk.below (by repeat first | exact blk_at (by first | rfl | omega | (simp; done) | (simp; omega)) | assumption | refine Blk.alloc ?_ _ | refine Blk.drew ?_ | refine Blk.drewN ?_ _ | (refine Blk.other ?_ _ (by first | omega | (simp; done) | (simp; omega))) | (refine Blk.below ?_ (by assumption))) hb1; have c2' := L1'.cell 0 rfl; have c3' := L1'.cell 1 rfl; have c4' := L1'.cell 2 rfl; have y2' := L1'.lt) | (go_at_call 37; go_must (refine (isShown_any _ _).mono ?_); rintro e w1 ⟨rfl, hb1⟩; obtain ⟨hc1, hf1, hs1⟩ := bcell hb1; have hz1 := hb1.size; (try simp at hz1); have Z1' : Below w.heap.size w w1 := Below.trans (b := _) (by repeat first | exact Below.refl _ _ | assumption | (refine Below.alloc ?_ (by first | omega | (simp; done) | (simp; omega)) _) | (refine Below.setCell ?_ (by first | omega | (simp; done) | (simp; omega)) _) | (refine Below.drew ?_) | (refine belowDrewN ?_) | (refine Below.trans ?_ (Below.mono (by assumption) (by first | omega | (simp; done) | (simp; omega))))) (Below.mono hb1 (by first | omega | (simp; done) | (simp; omega))); have L1' : Blk w1 LB #[.int .i64 r, .int .i64 e, .int .i64 c] 81 := Blk.below (by repeat first | exact blk_at (by first | rfl | omega | (simp; done) | (simp; omega)) | assumption | refine Blk.alloc ?_ _ | refine Blk.drew ?_ | refine Blk.drewN ?_ _ | (refine Blk.other ?_ _ (by first | omega | (simp; done) | (simp; omega))) | (refine Blk.below ?_ (by assumption))) hb1; have c2' := L1'.cell 0 rfl; have c3' := L1'.cell 1 rfl; have c4' := L1'.cell 2 rfl; have y2' := L1'.lt) | (go_at_call 46; go_must (refine (HK.out _ (by first | assumption | exact (by repeat first | exact Below.refl _ _ | assumption | (refine Below.alloc ?_ (by first | omega | (simp; done) | (simp; omega)) _) | (refine Below.setCell ?_ (by first | omega | (simp; done) | (simp; omega)) _) | (refine Below.drew ?_) | (refine belowDrewN ?_) | (refine Below.trans ?_ (Below.mono (by assumption) (by first | omega | (simp; done) | (simp; omega))))))).mono ?_); rintro e w1 ⟨rfl, hb1⟩; obtain ⟨hc1, hf1, hs1⟩ := bcell hb1; have hz1 := hb1.size; (try simp at hz1); have Z1' : Below w.heap.size w w1 := Below.trans (b := _) (by repeat first | exact Below.refl _ _ | assumption | (refine Below.alloc ?_ (by first | omega | (simp; done) | (simp; omega)) _) | (refine Below.setCell ?_ (by first | omega | (simp; done) | (simp; omega)) _) | (refine Below.drew ?_) | (refine belowDrewN ?_) | (refine Below.trans ?_ (Below.mono (by assumption) (by first | omega | (simp; done) | (simp; omega))))) (Below.mono hb1 (by first | omega | (simp; done) | (simp; omega))); have L1' : Blk w1 LB #[.int .i64 r, .int .i64 e, .int .i64 c] 81 := Blk.below (by repeat first | exact blk_at (by first | rfl | omega | (simp; done) | (simp; omega)) | assumption | refine Blk.alloc ?_ _ | refine Blk.drew ?_ | refine Blk.drewN ?_ _ | (refine Blk.other ?_ _ (by first | omega | (simp; done) | (simp; omega))) | (refine Blk.below ?_ (by assumption))) hb1; have c2' := L1'.cell 0 rfl; have c3' := L1'.cell 1 rfl; have c4' := L1'.cell 2 rfl; have y2' := L1'.lt))
  obtain ⟨MB, hMB⟩ : ∃ MB, w1.heap.size = MB := ⟨_, rfl⟩
  refine calls_name ?_
  intro W hW
  have M0 : IMap dialE 3 W MB 0 (fun _ => none) := by rw [hW, ← hMB]; exact IMap.made dialE w1
  have L0 : Blk W LB #[.int .i64 r, .int .i64 e, .int .i64 c] 81 := by rw [hW]; exact (by repeat first | exact blk_at (by first | rfl | omega | (simp; done) | (simp; omega)) | assumption | refine Blk.alloc ?_ _ | refine Blk.drew ?_ | refine Blk.drewN ?_ _ | (refine Blk.other ?_ _ (by first | omega | (simp; done) | (simp; omega))) | (refine Blk.below ?_ (by assumption)))
  have Z0 : Below w.heap.size w W := by rw [hW]; exact (by repeat first | exact Below.refl _ _ | assumption | (refine Below.alloc ?_ (by first | omega | (simp; done) | (simp; omega)) _) | (refine Below.setCell ?_ (by first | omega | (simp; done) | (simp; omega)) _) | (refine Below.drew ?_) | (refine belowDrewN ?_) | (refine Below.trans ?_ (Below.mono (by assumption) (by first | omega | (simp; done) | (simp; omega)))))
  have hLM : LB < MB := by rw [← hMB]; exact y2'
  have hwM : w.heap.size ≤ MB := by have := Z1'.size; omega
  rw [hMB]
  clear hW c2' c3' c4'
  refine (HS.out W).mono ?_
  rintro e w1 ⟨rfl, hb1⟩; obtain ⟨hc1, hf1, hs1⟩ := bcell hb1; have hz1 := hb1.size; (try simp at hz1)
  have M1 := M0.below hb1; have L1 := L0.below hb1
  have Z1 : Below w.heap.size w w1 := Z0.trans (hb1.mono Z0.size)
  have HM1 := Lib.hid M1
  clear hc1 hf1 hs1 M0 L0 Z0 M1
  go_wp2_with (refine wpList_imap_insert dialE _ rfl _ _ _ 95 rfl 3 Try.underlying95 Try.underlying3 MB 0 _ rfl HM1.out (by unfold maxLen; omega) ⟨s0, k0⟩ 0 rfl rfl hd (by decide) ?_; intro w3 hm3 hk3)
  have A0 : FewI w LB r e c (Pu.startR ⟨s0, k0⟩) 360 MB (upd (fun _ => none) ⟨s0, k0⟩ (some 0)) w3 :=
    ⟨Z1.trans (hk3.to_below Z1.size (fun b hb => by omega)), hk3.blk L1 (by omega), hm3.mono (by unfold NB; omega), by omega, by omega, Pu.MinOf.start _, fun d x hx => by rw [hx.1, hx.2]; exact ⟨hso, by omega⟩⟩
  have R0 : FewOutRel w LB r e c f ⟨s0, k0⟩ fs (.int .i64 0) (.map (some MB)) (.int .i64 f) w3 := ⟨0, MB, _, f, Nat.zero_le _, rfl, rfl, rfl, by simpa [Pu.seenR, Pu.lastS] using A0, Int.le_refl _, by simp [Pu.lastS], .inl (by simp [Pu.lastS])⟩
  clear A0 hm3 hk3 Z1 L1 Z1' L1' y2' y3' hLB hMB hz1 hb1 HM1
  go_loopw [48, 12, 13] (fun i m tt wr => FewOutRel w LB r e c f ⟨s0, k0⟩ fs i m tt wr) (fun i _ _ _ => fs.length - (intOf i).toNat)
  case atStart => exact R0
  case round =>
    obtain ⟨k, b, g, v, hk, rfl, rfl, rfl, A, v0, v1, v2⟩ := hrel
    clear R0
    by_cases hlt : k < fs.length
    · obtain ⟨bs, os, rfl, hbl, hc0, hc1⟩ := (HF.out.below A.low).2 k hlt
      have hge := Pu.lastS_ge k HSK.out
      have hge2 := hge.2 hlt
      have hsn : Pu.seenR ⟨r, e, c⟩ (Pu.startR ⟨s0, k0⟩) f (fs.take (k + 1)) = Pu.filtR fs[k].2 (Pu.stepsR ⟨r, e, c⟩ (Pu.lastS f (fs.take k)) (Pu.seenR ⟨r, e, c⟩ (Pu.startR ⟨s0, k0⟩) f (fs.take k)) (fs[k].1 - Pu.lastS f (fs.take k)).toNat) := by
        rw [List.take_succ_eq_append_getElem hlt, Pu.seenR_snoc]
      have hls : Pu.lastS f (fs.take (k + 1)) = fs[k].1 := by rw [List.take_succ_eq_append_getElem hlt, Pu.lastS_snoc]
      have HSN := Lib.hid hsn; have HLS := Lib.hid hls
      have hge1 := hge.1
      clear hsn hls hge
      generalize fs[k] = x at *
      obtain ⟨At, sh2⟩ := x
      generalize Pu.seenR ⟨r, e, c⟩ (Pu.startR ⟨s0, k0⟩) f (fs.take k) = R at *
      generalize Pu.lastS f (fs.take k) = last at *
      dsimp only at hc0 hc1 hge2 HSN HLS
      have hlw : LB < wr.heap.size := A.ln.lt
      have hbw : b < wr.heap.size := A.mp.lt
      have HA := Lib.hid A; have HV2 := Lib.hid v2
      clear A v2
      go_wp2_with fail
      refine wp_name ?_
      intro W hW
      obtain ⟨X, hX⟩ : ∃ X, wr.heap.size = X := ⟨_, rfl⟩
      have BX : Blk W X #[.int .i64 At, .int .i64 sh2] 53 := by rw [hW, ← hX]; exact (by repeat first | exact blk_at (by first | rfl | omega | (simp; done) | (simp; omega)) | assumption | refine Blk.alloc ?_ _ | refine Blk.drew ?_ | refine Blk.drewN ?_ _ | (refine Blk.other ?_ _ (by first | omega | (simp; done) | (simp; omega))) | (refine Blk.below ?_ (by assumption)))
      have AW : FewI w LB r e c R (360 + 2 * (last - f)) b g W := HA.out.below (by rw [hW]; exact (by repeat first | exact Below.refl _ _ | assumption | (refine Below.alloc ?_ (by first | omega | (simp; done) | (simp; omega)) _) | (refine Below.setCell ?_ (by first | omega | (simp; done) | (simp; omega)) _) | (refine Below.drew ?_) | (refine belowDrewN ?_) | (refine Below.trans ?_ (Below.mono (by assumption) (by first | omega | (simp; done) | (simp; omega))))))
      have I0 : FewInRel w LB X r e c f R (360 + 2 * (last - f)) last At sh2 (.map (some b)) (.int .i64 v) W := ⟨b, g, v, rfl, rfl, by
        rcases HV2.out with h | h
        · exact .inl ⟨0, by simp [h], by simpa [Pu.stepsR] using AW⟩
        · exact .inr ⟨h, AW⟩, v0, by omega, by omega, BX⟩
      have hok := AW.ok
      have HOK := Lib.hid hok
      rw [hX]
      clear hW hc0 hc1 AW BX HA HV2 hok hbw
      go_loopw [12, 13] (fun m tt wr => FewInRel w LB X r e c f R (360 + 2 * (last - f)) last At sh2 m tt wr) (fun _ tt _ => (At - intOf tt).toNat)
      case atStart => exact I0
      case round =>
        obtain ⟨b, g, v, rfl, rfl, A, v0, v1, hXb, BX⟩ := hrel
        clear I0
        obtain ⟨mp, lb, bl, ln, low⟩ := A.mp
        have HM := Lib.hid mp; have HA := Lib.hid A
        have x0 := BX.cell 0 rfl; have x1 := BX.cell 1 rfl
        have l0 := ln.cell 0 rfl; have l1 := ln.cell 1 rfl; have l2 := ln.cell 2 rfl
        have hXl := BX.lt
        clear mp A
        obtain ⟨sz, hsz1, hsz2, hrl⟩ := HM.out.len Try.underlying95
        have HS2 := Lib.hid hsz2
        clear hsz1 hsz2
        by_cases hv : v < At
        · by_cases hs0 : 0 < sz
          · obtain ⟨d1, c1, hd1⟩ := HS2.out.1 hs0
            obtain ⟨n, hn, A⟩ : ∃ n : Nat, v = last + n ∧ FewI w LB r e c (Pu.stepsR ⟨r, e, c⟩ last R n) (360 + 2 * (last - f) + 2 * n) b g wr := by
              rcases HA.out with h | ⟨h, _⟩
              · exact h
              · rw [h] at hd1; cases hd1
            have HN := Lib.hid hn; have HAA := Lib.hid A
            clear hd1 hn A
            go_wp2_with fail
            refine (after_any r e c (v + 1) b NB g wr HL.out (by omega) HM.out (by rw [nb_eq]; omega) (HAA.out.vals (by have := HN.out; omega))).mono ?_
            rintro en w4 ⟨b4, g4, rfl, hb4, hbe4, hm4, hmin4⟩
            have hn' := HN.out
            have A4 := HAA.out.step hbe4 (by omega) (by omega) hm4 hmin4 hb4
            rw [show v + 1 = last + n + 1 by omega] at A4
            clear hn'
            have B4 := BX.below hbe4
            clear hbe4 hm4 hmin4 hrl x0 x1 l0 l1 l2
            go_wp2_with fail
            have hn' := HN.out
            refine ⟨⟨b4, g4, v + 1, rfl, rfl, .inl ⟨n + 1, by omega, ?_⟩, by omega, by omega, by omega, B4⟩, by simp [intOf]; omega⟩
            exact A4.mono (by omega)
          · have hgn : ∀ d, g d = none := fun d => by
              cases hgd : g d with
              | none => rfl
              | some c' => exact absurd (HS2.out.2 ⟨d, c', hgd⟩) hs0
            have A := HA.out.done (At := At) (.inr hgn) v1 (by omega) HOK.out (by omega)
            have HAA := Lib.hid A; have HG := Lib.hid hgn
            clear hgn A
            go_wp2_with fail
            refine (deleteFunc_any b NB X sh2 g wr HM.out x1 hXl hXb).mono ?_
            rintro en w4 ⟨rfl, hk4, hm4⟩
            have A4 := HAA.out.filt hk4 hm4
            clear hk4 hm4 hrl x0 x1 l0 l1 l2
            go_wp2_with fail
            refine ⟨⟨k + 1, b, _, v, by omega, by go_num, rfl, rfl, by rw [HSN.out, HLS.out]; exact A4.mono (by omega), v0, by rw [HLS.out]; omega, .inr fun d => by simp [Pu.keepF, HG.out]⟩, by simp [intOf]; omega⟩
        · have A := HA.out.done (At := At) (.inl (by omega)) v1 (by omega) HOK.out (by omega)
          have HAA := Lib.hid A
          clear A
          go_wp2_with fail
          refine (deleteFunc_any b NB X sh2 g wr HM.out x1 hXl hXb).mono ?_
          rintro en w4 ⟨rfl, hk4, hm4⟩
          have A4 := HAA.out.filt hk4 hm4
          clear hk4 hm4 hrl x0 x1 l0 l1 l2
          go_wp2_with fail
          refine ⟨⟨k + 1, b, _, v, by omega, by go_num, rfl, rfl, by rw [HSN.out, HLS.out]; exact A4.mono (by omega), v0, by rw [HLS.out]; omega, .inl (by rw [HLS.out]; omega)⟩, by simp [intOf]; omega⟩
    · have hk' : fs.take k = fs := List.take_of_length_le (by omega)
      rw [hk'] at A
      have HA := Lib.hid A
      obtain ⟨sz, hsz1, hsz2, hrl⟩ := A.mp.len Try.underlying95
      have HS2 := Lib.hid hsz2
      clear hsz1 hsz2 A hk' v2
      by_cases hs0 : 0 < sz
      · obtain ⟨d1, c1, hd1⟩ := HS2.out.1 hs0
        go_wp2_with fail
        refine (values_any b wr).mono ?_
        rintro en w4 ⟨rfl, hw4⟩
        have hb4 : Below wr.heap.size wr w4 := by rw [hw4]; exact (by repeat first | exact Below.refl _ _ | assumption | (refine Below.alloc ?_ (by first | omega | (simp; done) | (simp; omega)) _) | (refine Below.setCell ?_ (by first | omega | (simp; done) | (simp; omega)) _) | (refine Below.drew ?_) | (refine belowDrewN ?_) | (refine Below.trans ?_ (Below.mono (by assumption) (by first | omega | (simp; done) | (simp; omega)))))
        have A4 := HA.out.below hb4
        have B4 : Blk w4 wr.heap.size #[.map (some b)] 95 := by rw [hw4]; exact (by repeat first | exact blk_at (by first | rfl | omega | (simp; done) | (simp; omega)) | assumption | refine Blk.alloc ?_ _ | refine Blk.drew ?_ | refine Blk.drewN ?_ _ | (refine Blk.other ?_ _ (by first | omega | (simp; done) | (simp; omega))) | (refine Blk.below ?_ (by assumption)))
        have hbl := HA.out.mp.lt
        have hz4 : wr.heap.size < w4.heap.size := B4.lt
        have hit := values1_iter b NB wr.heap.size g w4 A4.mp B4 (by omega)
        have hC := collect_any 61 #[.pointer (some ⟨wr.heap.size, 0, none⟩)] (ValsPart NB g) (ValsAll NB g) (fun x => x = wr.heap.size) (fun x => x = b) NB w4 (by rw [nb_eq]; omega) (fun xs h => h.1) (fun xs h => h.1.1) (by intro args w; rfl) (fun x h => by omega) (fun x h => by omega) hit
        have HC := Lib.hid hC; have HA4 := Lib.hid A4
        clear hw4 hit hC A4 hrl B4
        go_wp2_with fail
        refine HC.out.mono ?_
        rintro en w5 ⟨a5, cp5, xs, hall, rfl, hle5, hi5, hk5⟩
        have hk5' : Below w.heap.size w w5 := HA4.out.low.trans (hk5.to_below HA4.out.low.size (fun x hx => by have hx' : x = wr.heap.size := hx; have := HA.out.low.size; omega))
        cases xs with
        | nil => have := hall.2 d1 c1 hd1; cases this
        | cons x tl =>
          have HI5 := Lib.hid hi5; have HALL := Lib.hid hall
          clear hall hi5 hk5 hle5 hd1
          go_wp2_with fail
          refine (min_any a5 cp5 x tl w5 HI5.out).mono ?_
          rintro e w1 ⟨rfl, hb1⟩; obtain ⟨hc1, hf1, hs1⟩ := bcell hb1; have hz1 := hb1.size; (try simp at hz1)
          go_wp2_with fail
          go_ret2
          refine ⟨minL tl x, 0, rfl, hk5'.trans (hb1.mono hk5'.size), ?_⟩
          unfold Pu.FewOut
          rw [if_neg (by simpa using H1.out), if_neg (by simp [hm]), if_neg (by simp [hs]), if_neg (by simpa using HKK.out), HD.out]
          exact few_min HA.out.mn HALL.out
      · go_wp2_with fail
        go_ret2
        refine ⟨0, 7, rfl, HA.out.low, ?_⟩
        unfold Pu.FewOut
        rw [if_neg (by simpa using H1.out), if_neg (by simp [hm]), if_neg (by simp [hs]), if_neg (by simpa using HKK.out), HD.out]
        refine .inr ⟨rfl, rfl, HA.out.mn.none fun d => ?_⟩
        cases hgd : g d with
        | none => rfl
        | some c' => exact absurd (HS2.out.2 ⟨d, c', hgd⟩) hs0
end Go.Proofs.Ytpjlihkpnhamlaa
end

/- pulse.Fewest: its contract at every input. -/
section
set_option linter.unusedSimpArgs false
set_option linter.unusedVariables false
namespace Go.Proofs.Ytpjlihkpnhamlaa
open Go.RowKit Go.Shelf Go.Maps
set_option maxHeartbeats 1000000 in
theorem fewest_any (r e c sh f : Int) (a : Option Addr) (cp : Nat) (fs : List (Int × Int)) (w : World) (hr : (Lit.int .i64 r).wf = true) (he : (Lit.int .i64 e).wf = true) (hc : (Lit.int .i64 c).wf = true) (hf : IsPairs w a fs) :
    Calls Try.prog 27 #[.agg #[.int .i64 r, .int .i64 e, .int .i64 c], .int .i64 sh, .int .i64 f, .slice a fs.length cp] w (FewPost ⟨r, e, c⟩ sh f fs w) := by
  have HO := Lib.hid (fun W => open_any r e c W hr he hc)
  by_cases h1 : Pu.lineErr r e c = 0
  case neg =>
    have h2 := Pu.err_two h1
    have HE := Lib.hid (show Pu.FewOut ⟨r, e, c⟩ sh f fs 0 2 by unfold Pu.FewOut; rw [if_pos (by simpa using h1)]; exact ⟨rfl, h2.symm⟩)
    rw [h2] at HO
    clear h1 h2 hf
    go_enter Try.func27, Try.ntmps27
    go_wp2_with (go_at_call 35; go_must (refine (HO.out _).mono ?_); rintro e w1 ⟨rfl, hb1⟩; obtain ⟨hc1, hf1, hs1⟩ := bcell hb1; have hz1 := hb1.size; (try simp at hz1); have Z1' : Below w.heap.size w w1 := Below.trans (b := _) (by repeat first | exact Below.refl _ _ | assumption | (refine Below.alloc ?_ (by first | omega | (simp; done) | (simp; omega)) _) | (refine Below.setCell ?_ (by first | omega | (simp; done) | (simp; omega)) _) | (refine Below.drew ?_) | (refine belowDrewN ?_) | (refine Below.trans ?_ (Below.mono (by assumption) (by first | omega | (simp; done) | (simp; omega))))) (Below.mono hb1 (by first | omega | (simp; done) | (simp; omega))); obtain ⟨LB, hLB⟩ : ∃ LB, w1.heap.size = LB := ⟨_, rfl⟩; have y3' : w.heap.size < LB := (by rw [← hLB]; omega))
    go_ret2
    exact ⟨0, 2, rfl, (by repeat first | exact Below.refl _ _ | assumption | (refine Below.alloc ?_ (by first | omega | (simp; done) | (simp; omega)) _) | (refine Below.setCell ?_ (by first | omega | (simp; done) | (simp; omega)) _) | (refine Below.drew ?_) | (refine belowDrewN ?_) | (refine Below.trans ?_ (Below.mono (by assumption) (by first | omega | (simp; done) | (simp; omega))))), HE.out⟩
  case pos =>
    have hok := Pu.ok_of_err h1
    cases hm : btw 0 100000 f
    case false =>
      have HE := Lib.hid (show Pu.FewOut ⟨r, e, c⟩ sh f fs 0 3 by unfold Pu.FewOut; rw [if_neg (by simpa using h1), if_pos hm]; exact ⟨rfl, rfl⟩)
      rw [h1] at HO
      clear h1 hf hok
      go_enter Try.func27, Try.ntmps27
      go_wp2_with (first | (go_at_call 35; go_must (refine (HO.out _).mono ?_); rintro e w1 ⟨rfl, hb1⟩; obtain ⟨hc1, hf1, hs1⟩ := bcell hb1; have hz1 := hb1.size; (try simp at hz1); have Z1' : Below w.heap.size w w1 := Below.trans (b := _) (by repeat first | exact Below.refl _ _ | assumption | (refine Below.alloc ?_ (by first | omega | (simp; done) | (simp; omega)) _) | (refine Below.setCell ?_ (by first | omega | (simp; done) | (simp; omega)) _) | (refine Below.drew ?_) | (refine belowDrewN ?_) | (refine Below.trans ?_ (Below.mono (by assumption) (by first | omega | (simp; done) | (simp; omega))))) (Below.mono hb1 (by first | omega | (simp; done) | (simp; omega))); obtain ⟨LB, hLB⟩ : ∃ LB, w1.heap.size = LB := ⟨_, rfl⟩; have y3' : w.heap.size < LB := (by rw [← hLB]; omega)) | (go_at_call 36; go_must (refine (isMinute_any _ _).mono ?_); rintro e w1 ⟨rfl, hb1⟩; obtain ⟨hc1, hf1, hs1⟩ := bcell hb1; have hz1 := hb1.size; (try simp at hz1); have Z1' : Below w.heap.size w w1 := Below.trans (b := _) (by repeat first | exact Below.refl _ _ | assumption | (refine Below.alloc ?_ (by first | omega | (simp; done) | (simp; omega)) _) | (refine Below.setCell ?_ (by first | omega | (simp; done) | (simp; omega)) _) | (refine Below.drew ?_) | (refine belowDrewN ?_) | (refine Below.trans ?_ (Below.mono (by assumption) (by first | omega | (simp; done) | (simp; omega))))) (Below.mono hb1 (by first | omega | (simp; done) | (simp; omega))); have L1' : Blk w1 LB #[.int .i64 r, .int .i64 e, .int .i64 c] 81 := Blk.below (by repeat first | exact blk_at (by first | rfl | omega | (simp; done) | (simp; omega)) | assumption | refine Blk.alloc ?_ _ | refine Blk.drew ?_ | refine Blk.drewN ?_ _ | (refine Blk.other ?_ _ (by first | omega | (simp; done) | (simp; omega))) | (refine Blk.below ?_ (by assumption))) hb1; have c2' := L1'.cell 0 rfl; have c3' := L1'.cell 1 rfl; have c4' := L1'.cell 2 rfl; have y2' := L1'.lt))
      go_ret2
      exact ⟨0, 3, rfl, (by repeat first | exact Below.refl _ _ | assumption | (refine Below.alloc ?_ (by first | omega | (simp; done) | (simp; omega)) _) | (refine Below.setCell ?_ (by first | omega | (simp; done) | (simp; omega)) _) | (refine Below.drew ?_) | (refine belowDrewN ?_) | (refine Below.trans ?_ (Below.mono (by assumption) (by first | omega | (simp; done) | (simp; omega))))), HE.out⟩
    case true =>
    cases hs : btw 0 719 sh
    case false =>
      have HE := Lib.hid (show Pu.FewOut ⟨r, e, c⟩ sh f fs 0 2 by unfold Pu.FewOut; rw [if_neg (by simpa using h1), if_neg (by simp [hm]), if_pos hs]; exact ⟨rfl, rfl⟩)
      rw [h1] at HO
      clear h1 hf hok
      go_enter Try.func27, Try.ntmps27
      go_wp2_with (first | (go_at_call 35; go_must (refine (HO.out _).mono ?_); rintro e w1 ⟨rfl, hb1⟩; obtain ⟨hc1, hf1, hs1⟩ := bcell hb1; have hz1 := hb1.size; (try simp at hz1); have Z1' : Below w.heap.size w w1 := Below.trans (b := _) (by repeat first | exact Below.refl _ _ | assumption | (refine Below.alloc ?_ (by first | omega | (simp; done) | (simp; omega)) _) | (refine Below.setCell ?_ (by first | omega | (simp; done) | (simp; omega)) _) | (refine Below.drew ?_) | (refine belowDrewN ?_) | (refine Below.trans ?_ (Below.mono (by assumption) (by first | omega | (simp; done) | (simp; omega))))) (Below.mono hb1 (by first | omega | (simp; done) | (simp; omega))); obtain ⟨LB, hLB⟩ : ∃ LB, w1.heap.size = LB := ⟨_, rfl⟩; have y3' : w.heap.size < LB := (by rw [← hLB]; omega)) | (go_at_call 36; go_must (refine (isMinute_any _ _).mono ?_); rintro e w1 ⟨rfl, hb1⟩; obtain ⟨hc1, hf1, hs1⟩ := bcell hb1; have hz1 := hb1.size; (try simp at hz1); have Z1' : Below w.heap.size w w1 := Below.trans (b := _) (by repeat first | exact Below.refl _ _ | assumption | (refine Below.alloc ?_ (by first | omega | (simp; done) | (simp; omega)) _) | (refine Below.setCell ?_ (by first | omega | (simp; done) | (simp; omega)) _) | (refine Below.drew ?_) | (refine belowDrewN ?_) | (refine Below.trans ?_ (Below.mono (by assumption) (by first | omega | (simp; done) | (simp; omega))))) (Below.mono hb1 (by first | omega | (simp; done) | (simp; omega))); have L1' : Blk w1 LB #[.int .i64 r, .int .i64 e, .int .i64 c] 81 := Blk.below (by repeat first | exact blk_at (by first | rfl | omega | (simp; done) | (simp; omega)) | assumption | refine Blk.alloc ?_ _ | refine Blk.drew ?_ | refine Blk.drewN ?_ _ | (refine Blk.other ?_ _ (by first | omega | (simp; done) | (simp; omega))) | (refine Blk.below ?_ (by assumption))) hb1; have c2' := L1'.cell 0 rfl; have c3' := L1'.cell 1 rfl; have c4' := L1'.cell 2 rfl; have y2' := L1'.lt) | (go_at_call 37; go_must (refine (isShown_any _ _).mono ?_); rintro e w1 ⟨rfl, hb1⟩; obtain ⟨hc1, hf1, hs1⟩ := bcell hb1; have hz1 := hb1.size; (try simp at hz1); have Z1' : Below w.heap.size w w1 := Below.trans (b := _) (by repeat first | exact Below.refl _ _ | assumption | (refine Below.alloc ?_ (by first | omega | (simp; done) | (simp; omega)) _) | (refine Below.setCell ?_ (by first | omega | (simp; done) | (simp; omega)) _) | (refine Below.drew ?_) | (refine belowDrewN ?_) | (refine Below.trans ?_ (Below.mono (by assumption) (by first | omega | (simp; done) | (simp; omega))))) (Below.mono hb1 (by first | omega | (simp; done) | (simp; omega))); have L1' : Blk w1 LB #[.int .i64 r, .int .i64 e, .int .i64 c] 81 := Blk.below (by repeat first | exact blk_at (by first | rfl | omega | (simp; done) | (simp; omega)) | assumption | refine Blk.alloc ?_ _ | refine Blk.drew ?_ | refine Blk.drewN ?_ _ | (refine Blk.other ?_ _ (by first | omega | (simp; done) | (simp; omega))) | (refine Blk.below ?_ (by assumption))) hb1; have c2' := L1'.cell 0 rfl; have c3' := L1'.cell 1 rfl; have c4' := L1'.cell 2 rfl; have y2' := L1'.lt))
      go_ret2
      exact ⟨0, 2, rfl, (by repeat first | exact Below.refl _ _ | assumption | (refine Below.alloc ?_ (by first | omega | (simp; done) | (simp; omega)) _) | (refine Below.setCell ?_ (by first | omega | (simp; done) | (simp; omega)) _) | (refine Below.drew ?_) | (refine belowDrewN ?_) | (refine Below.trans ?_ (Below.mono (by assumption) (by first | omega | (simp; done) | (simp; omega))))), HE.out⟩
    case true =>
    have hm' := btw_iff.1 hm
    by_cases hk : Pu.seenErr f fs = 0
    case pos => exact fewest_ok r e c sh f a cp fs w hr he hc hf h1 hm hs hk
    case neg =>
      have HK := Lib.hid (fun W (hW : Below w.heap.size w W) => checkSeen_any f a cp fs W (hf.below hW) (by omega) (by omega))
      have HE := Lib.hid (show Pu.FewOut ⟨r, e, c⟩ sh f fs 0 (Pu.seenErr f fs) by unfold Pu.FewOut; rw [if_neg (by simpa using h1), if_neg (by simp [hm]), if_neg (by simp [hs]), if_pos hk]; exact ⟨rfl, rfl⟩)
      rw [h1] at HO
      generalize Pu.seenErr f fs = q at HK HE hk
      have hq : (q != 0) = true := by simp [hk]
      clear h1 hf hok hk
      go_enter Try.func27, Try.ntmps27
      go_wp2_with (first | (go_at_call 35; go_must (refine (HO.out _).mono ?_); rintro e w1 ⟨rfl, hb1⟩; obtain ⟨hc1, hf1, hs1⟩ := bcell hb1; have hz1 := hb1.size; (try simp at hz1); have Z1' : Below w.heap.size w w1 := Below.trans (b := _) (by repeat first | exact Below.refl _ _ | assumption | (refine Below.alloc ?_ (by first | omega | (simp; done) | (simp; omega)) _) | (refine Below.setCell ?_ (by first | omega | (simp; done) | (simp; omega)) _) | (refine Below.drew ?_) | (refine belowDrewN ?_) | (refine Below.trans ?_ (Below.mono (by assumption) (by first | omega | (simp; done) | (simp; omega))))) (Below.mono hb1 (by first | omega | (simp; done) | (simp; omega))); obtain ⟨LB, hLB⟩ : ∃ LB, w1.heap.size = LB := ⟨_, rfl⟩; have y3' : w.heap.size < LB := (by rw [← hLB]; omega)) | (go_at_call 36; go_must (refine (isMinute_any _ _).mono ?_); rintro e w1 ⟨rfl, hb1⟩; obtain ⟨hc1, hf1, hs1⟩ := bcell hb1; have hz1 := hb1.size; (try simp at hz1); have Z1' : Below w.heap.size w w1 := Below.trans (b := _) (by repeat first | exact Below.refl _ _ | assumption | (refine Below.alloc ?_ (by first | omega | (simp; done) | (simp; omega)) _) | (refine Below.setCell ?_ (by first | omega | (simp; done) | (simp; omega)) _) | (refine Below.drew ?_) | (refine belowDrewN ?_) | (refine Below.trans ?_ (Below.mono (by assumption) (by first | omega | (simp; done) | (simp; omega))))) (Below.mono hb1 (by first | omega | (simp; done) | (simp; omega))); have L1' : Blk w1 LB #[.int .i64 r, .int .i64 e, .int .i64 c] 81 := Blk.below (by repeat first | exact blk_at (by first | rfl | omega | (simp; done) | (simp; omega)) | assumption | refine Blk.alloc ?_ _ | refine Blk.drew ?_ | refine Blk.drewN ?_ _ | (refine Blk.other ?_ _ (by first | omega | (simp; done) | (simp; omega))) | (refine Blk.below ?_ (by assumption))) hb1; have c2' := L1'.cell 0 rfl; have c3' := L1'.cell 1 rfl; have c4' := L1'.cell 2 rfl; have y2' := L1'.lt) | (go_at_call 37; go_must (refine (isShown_any _ _).mono ?_); rintro e w1 ⟨rfl, hb1⟩; obtain ⟨hc1, hf1, hs1⟩ := bcell hb1; have hz1 := hb1.size; (try simp at hz1); have Z1' : Below w.heap.size w w1 := Below.trans (b := _) (by repeat first | exact Below.refl _ _ | assumption | (refine Below.alloc ?_ (by first | omega | (simp; done) | (simp; omega)) _) | (refine Below.setCell ?_ (by first | omega | (simp; done) | (simp; omega)) _) | (refine Below.drew ?_) | (refine belowDrewN ?_) | (refine Below.trans ?_ (Below.mono (by assumption) (by first | omega | (simp; done) | (simp; omega))))) (Below.mono hb1 (by first | omega | (simp; done) | (simp; omega))); have L1' : Blk w1 LB #[.int .i64 r, .int .i64 e, .int .i64 c] 81 := Blk.below (by repeat first | exact blk_at (by first | rfl | omega | (simp; done) | (simp; omega)) | assumption | refine Blk.alloc ?_ _ | refine Blk.drew ?_ | refine Blk.drewN ?_ _ | (refine Blk.other ?_ _ (by first | omega | (simp; done) | (simp; omega))) | (refine Blk.below ?_ (by assumption))) hb1; have c2' := L1'.cell 0 rfl; have c3' := L1'.cell 1 rfl; have c4' := L1'.cell 2 rfl; have y2' := L1'.lt) | (go_at_call 46; go_must (refine (HK.out _ (by first | assumption | exact (by repeat first | exact Below.refl _ _ | assumption | (refine Below.alloc ?_ (by first | omega | (simp; done) | (simp; omega)) _) | (refine Below.setCell ?_ (by first | omega | (simp; done) | (simp; omega)) _) | (refine Below.drew ?_) | (refine belowDrewN ?_) | (refine Below.trans ?_ (Below.mono (by assumption) (by first | omega | (simp; done) | (simp; omega))))))).mono ?_); rintro e w1 ⟨rfl, hb1⟩; obtain ⟨hc1, hf1, hs1⟩ := bcell hb1; have hz1 := hb1.size; (try simp at hz1); have Z1' : Below w.heap.size w w1 := Below.trans (b := _) (by repeat first | exact Below.refl _ _ | assumption | (refine Below.alloc ?_ (by first | omega | (simp; done) | (simp; omega)) _) | (refine Below.setCell ?_ (by first | omega | (simp; done) | (simp; omega)) _) | (refine Below.drew ?_) | (refine belowDrewN ?_) | (refine Below.trans ?_ (Below.mono (by assumption) (by first | omega | (simp; done) | (simp; omega))))) (Below.mono hb1 (by first | omega | (simp; done) | (simp; omega))); have L1' : Blk w1 LB #[.int .i64 r, .int .i64 e, .int .i64 c] 81 := Blk.below (by repeat first | exact blk_at (by first | rfl | omega | (simp; done) | (simp; omega)) | assumption | refine Blk.alloc ?_ _ | refine Blk.drew ?_ | refine Blk.drewN ?_ _ | (refine Blk.other ?_ _ (by first | omega | (simp; done) | (simp; omega))) | (refine Blk.below ?_ (by assumption))) hb1; have c2' := L1'.cell 0 rfl; have c3' := L1'.cell 1 rfl; have c4' := L1'.cell 2 rfl; have y2' := L1'.lt))
      go_ret2
      exact ⟨0, q, rfl, (by repeat first | exact Below.refl _ _ | assumption | (refine Below.alloc ?_ (by first | omega | (simp; done) | (simp; omega)) _) | (refine Below.setCell ?_ (by first | omega | (simp; done) | (simp; omega)) _) | (refine Below.drew ?_) | (refine belowDrewN ?_) | (refine Below.trans ?_ (Below.mono (by assumption) (by first | omega | (simp; done) | (simp; omega))))), HE.out⟩
end Go.Proofs.Ytpjlihkpnhamlaa
end

/- The walk of the laws' known calls: they return what the document's examples say. -/
section
set_option linter.unusedSimpArgs false
set_option linter.unusedVariables false
namespace Go.Proofs.Ytpjlihkpnhamlaa
open Go.RowKit Go.Shelf

theorem flat2 : ∀ (fs : List (Int × Int)) (i : Nat) (hi : i < fs.length), (fs.flatMap fun x => [Value.int .i64 x.1, Value.int .i64 x.2])[i * 2]? = some (.int .i64 fs[i].1) ∧ (fs.flatMap fun x => [Value.int .i64 x.1, Value.int .i64 x.2])[i * 2 + 1]? = some (.int .i64 fs[i].2)
  | x :: tl, 0, _ => by simp
  | x :: tl, i + 1, hi => by
    have := flat2 tl i (by simpa using hi)
    rw [show (i + 1) * 2 = i * 2 + 1 + 1 by omega]
    simpa using this
theorem isPairs_blk {w : World} {b : Nat} {T : TypeId} {vs : Array Value} (fs : List (Int × Int)) (h : Blk w b vs T) (hv : vs = (fs.flatMap fun x => [Value.int .i64 x.1, Value.int .i64 x.2]).toArray) (hl : fs.length ≤ 140737488355327) : IsPairs w (some ⟨b, 0, none⟩) fs := by
  subst hv
  refine ⟨hl, fun i hi => ⟨b, 0, rfl, h.lt, ?_, ?_⟩⟩
  · rw [Nat.zero_add]; exact h.cell _ (by rw [List.getElem?_toArray]; exact (flat2 fs i hi).1)
  · rw [Nat.zero_add]; exact h.cell _ (by rw [List.getElem?_toArray]; exact (flat2 fs i hi).2)

theorem kn1 : Pu.runVal ⟨1, 60, 15⟩ 0 0 [(10, 1), (11, 1), (30, 1)] 59 = (56, 0) := by decide +kernel
theorem kn2 : Pu.backVal ⟨1, 60, 15⟩ 0 [(10, 1), (11, 1), (30, 1)] = (60, 0) := by decide +kernel
theorem kn3 : Pu.corrVal ⟨1, 60, 15⟩ 15 15 = (true, 0) := by decide +kernel
theorem kn4 : Pu.corrVal ⟨1, 60, 15⟩ 16 0 = (false, 0) := by decide +kernel
theorem kn5 : Pu.backVal ⟨0, 0, 0⟩ 0 [(10, 1)] = (0, 7) := by decide +kernel
theorem kn6 : Pu.backVal ⟨2, 60, 5⟩ 0 [(10, 2), (20, 2), (30, 2)] = (59, 0) := by decide +kernel
theorem kn7 : Pu.runVal ⟨3, 60, 5⟩ 7 0 [(3, 1), (4, 1)] 60 = (67, 0) := by decide +kernel

set_option maxHeartbeats 400000 in
theorem lost_any (t : Int) (w : World) : Calls Try.prog 33 #[.int .i64 t] w (Ret w (.agg #[.int .i64 t, .int .i64 1])) := by
  go_enter Try.func33, Try.ntmps33
  go_wp2
  (refine bodyPost_ret (v := .agg #[.int .i64 t, .int .i64 1]) ?_ rfl (ret_any rfl (by repeat first | exact Below.refl _ _ | assumption | (refine Below.alloc ?_ (by first | omega | (simp; done) | (simp; omega)) _) | (refine Below.setCell ?_ (by first | omega | (simp; done) | (simp; omega)) _) | (refine Below.drew ?_) | (refine belowDrewN ?_) | (refine Below.trans ?_ (Below.mono (by assumption) (by first | omega | (simp; done) | (simp; omega)))))); (simp (maxDischargeDepth := 9) [results, Try.results33, go_sem, *]); (try simp only [beq_iff_eq, beq_eq_false_iff_ne, bne_iff_ne, bne_eq_false_iff_eq, ne_eq, Bool.not_eq_true, Bool.not_eq_true', Bool.not_eq_false', btw_iff, btw_not', Int.not_lt, Int.not_le] at *); done)
set_option maxHeartbeats 400000 in
theorem doubled_any (t : Int) (w : World) : Calls Try.prog 34 #[.int .i64 t] w (Ret w (.agg #[.int .i64 t, .int .i64 2])) := by
  go_enter Try.func34, Try.ntmps34
  go_wp2
  (refine bodyPost_ret (v := .agg #[.int .i64 t, .int .i64 2]) ?_ rfl (ret_any rfl (by repeat first | exact Below.refl _ _ | assumption | (refine Below.alloc ?_ (by first | omega | (simp; done) | (simp; omega)) _) | (refine Below.setCell ?_ (by first | omega | (simp; done) | (simp; omega)) _) | (refine Below.drew ?_) | (refine belowDrewN ?_) | (refine Below.trans ?_ (Below.mono (by assumption) (by first | omega | (simp; done) | (simp; omega)))))); (simp (maxDischargeDepth := 9) [results, Try.results34, go_sem, *]); (try simp only [beq_iff_eq, beq_eq_false_iff_ne, bne_iff_ne, bne_eq_false_iff_eq, ne_eq, Bool.not_eq_true, Bool.not_eq_true', Bool.not_eq_false', btw_iff, btw_not', Int.not_lt, Int.not_le] at *); done)
set_option maxHeartbeats 400000 in
theorem lawLine_any (r c : Int) (w : World) : Calls Try.prog 32 #[.int .i64 r, .int .i64 c] w (Ret w (.agg #[.int .i64 r, .int .i64 60, .int .i64 c])) := by
  go_enter Try.func32, Try.ntmps32
  go_wp2
  (refine bodyPost_ret (v := .agg #[.int .i64 r, .int .i64 60, .int .i64 c]) ?_ rfl (ret_any rfl (by repeat first | exact Below.refl _ _ | assumption | (refine Below.alloc ?_ (by first | omega | (simp; done) | (simp; omega)) _) | (refine Below.setCell ?_ (by first | omega | (simp; done) | (simp; omega)) _) | (refine Below.drew ?_) | (refine belowDrewN ?_) | (refine Below.trans ?_ (Below.mono (by assumption) (by first | omega | (simp; done) | (simp; omega)))))); (simp (maxDischargeDepth := 9) [results, Try.results32, go_sem, *]); (try simp only [beq_iff_eq, beq_eq_false_iff_ne, bne_iff_ne, bne_eq_false_iff_eq, ne_eq, Bool.not_eq_true, Bool.not_eq_true', Bool.not_eq_false', btw_iff, btw_not', Int.not_lt, Int.not_le] at *); done)

namespace Pu
/-- how many impulses of some minutes were no single ones -/
def cntN (fs : List (Int × Int)) (f : Int) : Nat → Int
  | 0 => 0
  | n + 1 => cntN fs f n + (if movesAt fs (f + n + 1) = 1 then 0 else 1)
/-- what faults bring about is among what can be -/
theorem path {l : Ln} {R : Dl → Int → Prop} {f : Int} {fs : List (Int × Int)} {d : Dl} {c : Int} (h : R d c) (hl : ∀ x ∈ fs, isLong l x.1 = false) : ∀ n : Nat, stepsR l f R n (runN l f fs d n) (c + cntN fs f n)
  | 0 => by simpa [stepsR, runN, cntN] using h
  | n + 1 => by
    refine ⟨_, _, path h hl n, ?_⟩
    simp only [runN, cntN]
    cases hm : fs.find? (fun x => x.1 == f + n + 1) with
    | none => 
      have : movesAt fs (f + n + 1) = 1 := by simp [movesAt, hm]
      exact .inl ⟨by rw [this], by rw [this]; simp⟩
    | some x =>
      have hx := List.find?_some hm
      have hxm := List.mem_of_find?_eq_some hm
      have e : x.1 = f + n + 1 := by simpa using hx
      have hL : isLong l (f + n + 1) = false := by rw [← e]; exact hl x hxm
      by_cases q : x.2 = 1
      · have : movesAt fs (f + n + 1) = 0 := by simp [movesAt, hm, q]
        exact .inr ⟨hL, by rw [this]; simp; omega, .inl (by rw [this])⟩
      · have : movesAt fs (f + n + 1) = 2 := by simp [movesAt, hm, q]
        exact .inr ⟨hL, by rw [this]; simp; omega, .inr (by rw [this])⟩
/-- a plain dial is off by no more than its faults -/
theorem plain_off {R : Dl → Int → Prop} {t a c0 : Int} (h : ∀ d c, R d c → d.s = a ∧ c0 ≤ c) : ∀ (n : Nat) d c, stepsR ⟨0, 0, 0⟩ t R n d c → ∃ x : Int, d.s % 720 = (a + n + x) % 720 ∧ x ≤ c - c0 ∧ -x ≤ c - c0
  | 0, d, c, hd => by
    obtain ⟨h1, h2⟩ := h d c hd
    exact ⟨0, by rw [h1]; simp, by omega, by omega⟩
  | n + 1, d', c', hd => by
    obtain ⟨d, c, h1, h2⟩ := hd
    obtain ⟨x, h3, h4, h5⟩ := plain_off h n d c h1
    have i0 : ∀ t, imp ⟨0, 0, 0⟩ t 0 d = d := fun t => by simp [imp, isLong, mvs]
    have i1 : ∀ t, (imp ⟨0, 0, 0⟩ t 1 d).s = (d.s + 1) % 720 := fun t => by simp [imp, isLong, mvs, mv]
    have i2 : ∀ t, (imp ⟨0, 0, 0⟩ t 2 d).s = ((d.s + 1) % 720 + 1) % 720 := fun t => by simp [imp, isLong, mvs, mv]
    rcases h2 with ⟨rfl, rfl⟩ | ⟨_, rfl, rfl | rfl⟩
    · exact ⟨x, by rw [i1]; omega, h4, h5⟩
    · exact ⟨x - 1, by (try rw [i0]); omega, by omega, by omega⟩
    · exact ⟨x + 1, by rw [i2]; omega, by omega, by omega⟩
theorem known_few {n e : Int} (h : FewOut ⟨0, 0, 0⟩ 0 0 [(10, 11), (20, 20)] n e) : n = 2 ∧ e = 0 := by
  unfold FewOut at h
  rw [if_neg (by decide), if_neg (by decide +kernel), if_neg (by decide +kernel), if_neg (by decide +kernel)] at h
  have hR : ∃ d, seenR ⟨0, 0, 0⟩ (startR (start ⟨0, 0, 0⟩ 0 0)) 0 [(10, 11), (20, 20)] d 2 := by
    have p1 := path (l := ⟨0, 0, 0⟩) (R := startR (start ⟨0, 0, 0⟩ 0 0)) (f := 0) (fs := [(1, 2)]) (d := start ⟨0, 0, 0⟩ 0 0) (c := 0) ⟨rfl, rfl⟩ (by decide +kernel) 10
    have p2 := path (l := ⟨0, 0, 0⟩) (R := filtR 11 (stepsR ⟨0, 0, 0⟩ 0 (startR (start ⟨0, 0, 0⟩ 0 0)) 10)) (f := 10) (fs := [(11, 1)]) ⟨p1, by decide +kernel⟩ (by decide +kernel) 10
    exact ⟨_, p2, by decide +kernel⟩
  have hle : ∀ d c, seenR ⟨0, 0, 0⟩ (startR (start ⟨0, 0, 0⟩ 0 0)) 0 [(10, 11), (20, 20)] d c → 2 ≤ c := by
    rintro d c ⟨h1, h2⟩
    have q : ∀ d c, filtR 11 (stepsR ⟨0, 0, 0⟩ 0 (startR (start ⟨0, 0, 0⟩ 0 0)) 10) d c → d.s = 11 ∧ 1 ≤ c := by
      rintro d c ⟨h1, h2⟩
      obtain ⟨x, h3, h4, h5⟩ := plain_off (a := 0) (c0 := 0) (by rintro d c ⟨rfl, rfl⟩; exact ⟨rfl, by omega⟩) 10 d c h1
      exact ⟨h2, by omega⟩
    obtain ⟨x, h3, h4, h5⟩ := plain_off q 10 d c h1
    simp only at h2
    omega
  obtain ⟨d, hd⟩ := hR
  rcases h with ⟨rfl, _, ⟨d', hd'⟩, h2⟩ | ⟨_, _, h3⟩
  · have := h2 d 2 hd
    have := hle d' n hd'
    omega
  · have := h3 d 2 hd; omega
end Pu

theorem wfi {n : Int} (h : -1000000 ≤ n) (h2 : n ≤ 1000000) : (Lit.int .i64 n).wf = true := WalkArith.wf_i64 ⟨by omega, by omega⟩
set_option maxHeartbeats 2000000 in
theorem known_any (w : World) : Calls Try.prog 11 #[] w (Ret w (.bool true)) := by
  have Z : Below w.heap.size w w := Below.refl _ w
  have HW := Lib.hid (rfl : w = w)
  go_enter Try.func11, Try.ntmps11
  go_wp2_with (first | (go_at_call 32; refine calls_name ?_; intro W hW; have hZs := Z.size; have ZW : Below w.heap.size w W := (by rw [hW]; exact (by repeat first | exact Below.refl _ _ | assumption | (refine Below.alloc ?_ (by first | omega | (simp; done) | (simp; omega)) _) | (refine Below.setCell ?_ (by first | omega | (simp; done) | (simp; omega)) _) | (refine Below.drew ?_) | (refine belowDrewN ?_) | (refine Below.trans ?_ (Below.mono (by assumption) (by first | omega | (simp; done) | (simp; omega)))))); clear Z hW hZs; go_must (refine (lawLine_any _ _ _).mono ?_); rintro e w1 ⟨rfl, hb1⟩; have Z := ZW.trans (hb1.mono ZW.size); clear hb1 ZW) | (go_at_call 33; refine calls_name ?_; intro W hW; have hZs := Z.size; have ZW : Below w.heap.size w W := (by rw [hW]; exact (by repeat first | exact Below.refl _ _ | assumption | (refine Below.alloc ?_ (by first | omega | (simp; done) | (simp; omega)) _) | (refine Below.setCell ?_ (by first | omega | (simp; done) | (simp; omega)) _) | (refine Below.drew ?_) | (refine belowDrewN ?_) | (refine Below.trans ?_ (Below.mono (by assumption) (by first | omega | (simp; done) | (simp; omega)))))); clear Z hW hZs; go_must (refine (lost_any _ _).mono ?_); rintro e w1 ⟨rfl, hb1⟩; have Z := ZW.trans (hb1.mono ZW.size); clear hb1 ZW) | (go_at_call 34; refine calls_name ?_; intro W hW; have hZs := Z.size; have ZW : Below w.heap.size w W := (by rw [hW]; exact (by repeat first | exact Below.refl _ _ | assumption | (refine Below.alloc ?_ (by first | omega | (simp; done) | (simp; omega)) _) | (refine Below.setCell ?_ (by first | omega | (simp; done) | (simp; omega)) _) | (refine Below.drew ?_) | (refine belowDrewN ?_) | (refine Below.trans ?_ (Below.mono (by assumption) (by first | omega | (simp; done) | (simp; omega)))))); clear Z hW hZs; go_must (refine (doubled_any _ _).mono ?_); rintro e w1 ⟨rfl, hb1⟩; have Z := ZW.trans (hb1.mono ZW.size); clear hb1 ZW) | (go_at_call 23; refine calls_name ?_; intro W hW; have hZs := Z.size; have ZW : Below w.heap.size w W := (by rw [hW]; exact (by repeat first | exact Below.refl _ _ | assumption | (refine Below.alloc ?_ (by first | omega | (simp; done) | (simp; omega)) _) | (refine Below.setCell ?_ (by first | omega | (simp; done) | (simp; omega)) _) | (refine Below.drew ?_) | (refine belowDrewN ?_) | (refine Below.trans ?_ (Below.mono (by assumption) (by first | omega | (simp; done) | (simp; omega)))))); clear Z hW hZs; go_must (refine (corrects_any _ _ _ _ _ _ (by decide) (by decide) (by decide)).mono ?_); rintro e w1 ⟨rfl, hb1⟩; have Z := ZW.trans (hb1.mono ZW.size); clear hb1 ZW))
  (refine calls_name ?_; intro W hW; have hZs := Z.size; have ZW : Below w.heap.size w W := (by rw [hW]; exact (by repeat first | exact Below.refl _ _ | assumption | (refine Below.alloc ?_ (by first | omega | (simp; done) | (simp; omega)) _) | (refine Below.setCell ?_ (by first | omega | (simp; done) | (simp; omega)) _) | (refine Below.drew ?_) | (refine belowDrewN ?_) | (refine Below.trans ?_ (Below.mono (by assumption) (by first | omega | (simp; done) | (simp; omega)))))); have BW : Blk W _ #[.int .i64 10, .int .i64 1, .int .i64 11, .int .i64 1, .int .i64 30, .int .i64 1] 67 := (by rw [hW]; exact Blk.new _ _ _); clear Z hW hZs; refine (pulseRun_any 1 60 15 0 0 59 (some ⟨_, 0, none⟩) 3 [(10, 1), (11, 1), (30, 1)] W (by decide) (by decide) (by decide) (isPairs_blk _ BW rfl (by decide)) (by decide)).mono ?_; rintro e w1 ⟨rfl, hb1⟩; have Z := ZW.trans (hb1.mono ZW.size); clear hb1 ZW BW; simp only [kn1])
  go_wp2_with (first | (go_at_call 32; refine calls_name ?_; intro W hW; have hZs := Z.size; have ZW : Below w.heap.size w W := (by rw [hW]; exact (by repeat first | exact Below.refl _ _ | assumption | (refine Below.alloc ?_ (by first | omega | (simp; done) | (simp; omega)) _) | (refine Below.setCell ?_ (by first | omega | (simp; done) | (simp; omega)) _) | (refine Below.drew ?_) | (refine belowDrewN ?_) | (refine Below.trans ?_ (Below.mono (by assumption) (by first | omega | (simp; done) | (simp; omega)))))); clear Z hW hZs; go_must (refine (lawLine_any _ _ _).mono ?_); rintro e w1 ⟨rfl, hb1⟩; have Z := ZW.trans (hb1.mono ZW.size); clear hb1 ZW) | (go_at_call 33; refine calls_name ?_; intro W hW; have hZs := Z.size; have ZW : Below w.heap.size w W := (by rw [hW]; exact (by repeat first | exact Below.refl _ _ | assumption | (refine Below.alloc ?_ (by first | omega | (simp; done) | (simp; omega)) _) | (refine Below.setCell ?_ (by first | omega | (simp; done) | (simp; omega)) _) | (refine Below.drew ?_) | (refine belowDrewN ?_) | (refine Below.trans ?_ (Below.mono (by assumption) (by first | omega | (simp; done) | (simp; omega)))))); clear Z hW hZs; go_must (refine (lost_any _ _).mono ?_); rintro e w1 ⟨rfl, hb1⟩; have Z := ZW.trans (hb1.mono ZW.size); clear hb1 ZW) | (go_at_call 34; refine calls_name ?_; intro W hW; have hZs := Z.size; have ZW : Below w.heap.size w W := (by rw [hW]; exact (by repeat first | exact Below.refl _ _ | assumption | (refine Below.alloc ?_ (by first | omega | (simp; done) | (simp; omega)) _) | (refine Below.setCell ?_ (by first | omega | (simp; done) | (simp; omega)) _) | (refine Below.drew ?_) | (refine belowDrewN ?_) | (refine Below.trans ?_ (Below.mono (by assumption) (by first | omega | (simp; done) | (simp; omega)))))); clear Z hW hZs; go_must (refine (doubled_any _ _).mono ?_); rintro e w1 ⟨rfl, hb1⟩; have Z := ZW.trans (hb1.mono ZW.size); clear hb1 ZW) | (go_at_call 23; refine calls_name ?_; intro W hW; have hZs := Z.size; have ZW : Below w.heap.size w W := (by rw [hW]; exact (by repeat first | exact Below.refl _ _ | assumption | (refine Below.alloc ?_ (by first | omega | (simp; done) | (simp; omega)) _) | (refine Below.setCell ?_ (by first | omega | (simp; done) | (simp; omega)) _) | (refine Below.drew ?_) | (refine belowDrewN ?_) | (refine Below.trans ?_ (Below.mono (by assumption) (by first | omega | (simp; done) | (simp; omega)))))); clear Z hW hZs; go_must (refine (corrects_any _ _ _ _ _ _ (by decide) (by decide) (by decide)).mono ?_); rintro e w1 ⟨rfl, hb1⟩; have Z := ZW.trans (hb1.mono ZW.size); clear hb1 ZW))
  (refine calls_name ?_; intro W hW; have hZs := Z.size; have ZW : Below w.heap.size w W := (by rw [hW]; exact (by repeat first | exact Below.refl _ _ | assumption | (refine Below.alloc ?_ (by first | omega | (simp; done) | (simp; omega)) _) | (refine Below.setCell ?_ (by first | omega | (simp; done) | (simp; omega)) _) | (refine Below.drew ?_) | (refine belowDrewN ?_) | (refine Below.trans ?_ (Below.mono (by assumption) (by first | omega | (simp; done) | (simp; omega)))))); have BW : Blk W _ #[.int .i64 10, .int .i64 1, .int .i64 11, .int .i64 1, .int .i64 30, .int .i64 1] 67 := (by rw [hW]; exact Blk.new _ _ _); clear Z hW hZs; refine (pulseBack_any 1 60 15 0 (some ⟨_, 0, none⟩) 3 [(10, 1), (11, 1), (30, 1)] W (by decide) (by decide) (by decide) (isPairs_blk _ BW rfl (by decide)) (by decide)).mono ?_; rintro e w1 ⟨rfl, hb1⟩; have Z := ZW.trans (hb1.mono ZW.size); clear hb1 ZW BW; simp only [kn2])
  go_wp2_with (first | (go_at_call 32; refine calls_name ?_; intro W hW; have hZs := Z.size; have ZW : Below w.heap.size w W := (by rw [hW]; exact (by repeat first | exact Below.refl _ _ | assumption | (refine Below.alloc ?_ (by first | omega | (simp; done) | (simp; omega)) _) | (refine Below.setCell ?_ (by first | omega | (simp; done) | (simp; omega)) _) | (refine Below.drew ?_) | (refine belowDrewN ?_) | (refine Below.trans ?_ (Below.mono (by assumption) (by first | omega | (simp; done) | (simp; omega)))))); clear Z hW hZs; go_must (refine (lawLine_any _ _ _).mono ?_); rintro e w1 ⟨rfl, hb1⟩; have Z := ZW.trans (hb1.mono ZW.size); clear hb1 ZW) | (go_at_call 33; refine calls_name ?_; intro W hW; have hZs := Z.size; have ZW : Below w.heap.size w W := (by rw [hW]; exact (by repeat first | exact Below.refl _ _ | assumption | (refine Below.alloc ?_ (by first | omega | (simp; done) | (simp; omega)) _) | (refine Below.setCell ?_ (by first | omega | (simp; done) | (simp; omega)) _) | (refine Below.drew ?_) | (refine belowDrewN ?_) | (refine Below.trans ?_ (Below.mono (by assumption) (by first | omega | (simp; done) | (simp; omega)))))); clear Z hW hZs; go_must (refine (lost_any _ _).mono ?_); rintro e w1 ⟨rfl, hb1⟩; have Z := ZW.trans (hb1.mono ZW.size); clear hb1 ZW) | (go_at_call 34; refine calls_name ?_; intro W hW; have hZs := Z.size; have ZW : Below w.heap.size w W := (by rw [hW]; exact (by repeat first | exact Below.refl _ _ | assumption | (refine Below.alloc ?_ (by first | omega | (simp; done) | (simp; omega)) _) | (refine Below.setCell ?_ (by first | omega | (simp; done) | (simp; omega)) _) | (refine Below.drew ?_) | (refine belowDrewN ?_) | (refine Below.trans ?_ (Below.mono (by assumption) (by first | omega | (simp; done) | (simp; omega)))))); clear Z hW hZs; go_must (refine (doubled_any _ _).mono ?_); rintro e w1 ⟨rfl, hb1⟩; have Z := ZW.trans (hb1.mono ZW.size); clear hb1 ZW) | (go_at_call 23; refine calls_name ?_; intro W hW; have hZs := Z.size; have ZW : Below w.heap.size w W := (by rw [hW]; exact (by repeat first | exact Below.refl _ _ | assumption | (refine Below.alloc ?_ (by first | omega | (simp; done) | (simp; omega)) _) | (refine Below.setCell ?_ (by first | omega | (simp; done) | (simp; omega)) _) | (refine Below.drew ?_) | (refine belowDrewN ?_) | (refine Below.trans ?_ (Below.mono (by assumption) (by first | omega | (simp; done) | (simp; omega)))))); clear Z hW hZs; go_must (refine (corrects_any _ _ _ _ _ _ (by decide) (by decide) (by decide)).mono ?_); rintro e w1 ⟨rfl, hb1⟩; have Z := ZW.trans (hb1.mono ZW.size); clear hb1 ZW))
  (refine calls_name ?_; intro W hW; have hZs := Z.size; have ZW : Below w.heap.size w W := (by rw [hW]; exact (by repeat first | exact Below.refl _ _ | assumption | (refine Below.alloc ?_ (by first | omega | (simp; done) | (simp; omega)) _) | (refine Below.setCell ?_ (by first | omega | (simp; done) | (simp; omega)) _) | (refine Below.drew ?_) | (refine belowDrewN ?_) | (refine Below.trans ?_ (Below.mono (by assumption) (by first | omega | (simp; done) | (simp; omega)))))); have BW : Blk W _ #[.int .i64 10, .int .i64 1] 67 := (by rw [hW]; exact Blk.new _ _ _); clear Z hW hZs; refine (pulseBack_any 0 0 0 0 (some ⟨_, 0, none⟩) 1 [(10, 1)] W (by decide) (by decide) (by decide) (isPairs_blk _ BW rfl (by decide)) (by decide)).mono ?_; rintro e w1 ⟨rfl, hb1⟩; have Z := ZW.trans (hb1.mono ZW.size); clear hb1 ZW BW; simp only [kn5, kn3, kn4])
  go_wp2_with (first | (go_at_call 32; refine calls_name ?_; intro W hW; have hZs := Z.size; have ZW : Below w.heap.size w W := (by rw [hW]; exact (by repeat first | exact Below.refl _ _ | assumption | (refine Below.alloc ?_ (by first | omega | (simp; done) | (simp; omega)) _) | (refine Below.setCell ?_ (by first | omega | (simp; done) | (simp; omega)) _) | (refine Below.drew ?_) | (refine belowDrewN ?_) | (refine Below.trans ?_ (Below.mono (by assumption) (by first | omega | (simp; done) | (simp; omega)))))); clear Z hW hZs; go_must (refine (lawLine_any _ _ _).mono ?_); rintro e w1 ⟨rfl, hb1⟩; have Z := ZW.trans (hb1.mono ZW.size); clear hb1 ZW) | (go_at_call 33; refine calls_name ?_; intro W hW; have hZs := Z.size; have ZW : Below w.heap.size w W := (by rw [hW]; exact (by repeat first | exact Below.refl _ _ | assumption | (refine Below.alloc ?_ (by first | omega | (simp; done) | (simp; omega)) _) | (refine Below.setCell ?_ (by first | omega | (simp; done) | (simp; omega)) _) | (refine Below.drew ?_) | (refine belowDrewN ?_) | (refine Below.trans ?_ (Below.mono (by assumption) (by first | omega | (simp; done) | (simp; omega)))))); clear Z hW hZs; go_must (refine (lost_any _ _).mono ?_); rintro e w1 ⟨rfl, hb1⟩; have Z := ZW.trans (hb1.mono ZW.size); clear hb1 ZW) | (go_at_call 34; refine calls_name ?_; intro W hW; have hZs := Z.size; have ZW : Below w.heap.size w W := (by rw [hW]; exact (by repeat first | exact Below.refl _ _ | assumption | (refine Below.alloc ?_ (by first | omega | (simp; done) | (simp; omega)) _) | (refine Below.setCell ?_ (by first | omega | (simp; done) | (simp; omega)) _) | (refine Below.drew ?_) | (refine belowDrewN ?_) | (refine Below.trans ?_ (Below.mono (by assumption) (by first | omega | (simp; done) | (simp; omega)))))); clear Z hW hZs; go_must (refine (doubled_any _ _).mono ?_); rintro e w1 ⟨rfl, hb1⟩; have Z := ZW.trans (hb1.mono ZW.size); clear hb1 ZW) | (go_at_call 23; refine calls_name ?_; intro W hW; have hZs := Z.size; have ZW : Below w.heap.size w W := (by rw [hW]; exact (by repeat first | exact Below.refl _ _ | assumption | (refine Below.alloc ?_ (by first | omega | (simp; done) | (simp; omega)) _) | (refine Below.setCell ?_ (by first | omega | (simp; done) | (simp; omega)) _) | (refine Below.drew ?_) | (refine belowDrewN ?_) | (refine Below.trans ?_ (Below.mono (by assumption) (by first | omega | (simp; done) | (simp; omega)))))); clear Z hW hZs; go_must (refine (corrects_any _ _ _ _ _ _ (by decide) (by decide) (by decide)).mono ?_); rintro e w1 ⟨rfl, hb1⟩; have Z := ZW.trans (hb1.mono ZW.size); clear hb1 ZW))
  (refine calls_name ?_; intro W hW; have hZs := Z.size; have ZW : Below w.heap.size w W := (by rw [hW]; exact (by repeat first | exact Below.refl _ _ | assumption | (refine Below.alloc ?_ (by first | omega | (simp; done) | (simp; omega)) _) | (refine Below.setCell ?_ (by first | omega | (simp; done) | (simp; omega)) _) | (refine Below.drew ?_) | (refine belowDrewN ?_) | (refine Below.trans ?_ (Below.mono (by assumption) (by first | omega | (simp; done) | (simp; omega)))))); have BW : Blk W _ #[.int .i64 10, .int .i64 2, .int .i64 20, .int .i64 2, .int .i64 30, .int .i64 2] 67 := (by rw [hW]; exact Blk.new _ _ _); clear Z hW hZs; refine (pulseBack_any 2 60 5 0 (some ⟨_, 0, none⟩) 3 [(10, 2), (20, 2), (30, 2)] W (by decide) (by decide) (by decide) (isPairs_blk _ BW rfl (by decide)) (by decide)).mono ?_; rintro e w1 ⟨rfl, hb1⟩; have Z := ZW.trans (hb1.mono ZW.size); clear hb1 ZW BW; simp only [kn6])
  go_wp2_with (first | (go_at_call 32; refine calls_name ?_; intro W hW; have hZs := Z.size; have ZW : Below w.heap.size w W := (by rw [hW]; exact (by repeat first | exact Below.refl _ _ | assumption | (refine Below.alloc ?_ (by first | omega | (simp; done) | (simp; omega)) _) | (refine Below.setCell ?_ (by first | omega | (simp; done) | (simp; omega)) _) | (refine Below.drew ?_) | (refine belowDrewN ?_) | (refine Below.trans ?_ (Below.mono (by assumption) (by first | omega | (simp; done) | (simp; omega)))))); clear Z hW hZs; go_must (refine (lawLine_any _ _ _).mono ?_); rintro e w1 ⟨rfl, hb1⟩; have Z := ZW.trans (hb1.mono ZW.size); clear hb1 ZW) | (go_at_call 33; refine calls_name ?_; intro W hW; have hZs := Z.size; have ZW : Below w.heap.size w W := (by rw [hW]; exact (by repeat first | exact Below.refl _ _ | assumption | (refine Below.alloc ?_ (by first | omega | (simp; done) | (simp; omega)) _) | (refine Below.setCell ?_ (by first | omega | (simp; done) | (simp; omega)) _) | (refine Below.drew ?_) | (refine belowDrewN ?_) | (refine Below.trans ?_ (Below.mono (by assumption) (by first | omega | (simp; done) | (simp; omega)))))); clear Z hW hZs; go_must (refine (lost_any _ _).mono ?_); rintro e w1 ⟨rfl, hb1⟩; have Z := ZW.trans (hb1.mono ZW.size); clear hb1 ZW) | (go_at_call 34; refine calls_name ?_; intro W hW; have hZs := Z.size; have ZW : Below w.heap.size w W := (by rw [hW]; exact (by repeat first | exact Below.refl _ _ | assumption | (refine Below.alloc ?_ (by first | omega | (simp; done) | (simp; omega)) _) | (refine Below.setCell ?_ (by first | omega | (simp; done) | (simp; omega)) _) | (refine Below.drew ?_) | (refine belowDrewN ?_) | (refine Below.trans ?_ (Below.mono (by assumption) (by first | omega | (simp; done) | (simp; omega)))))); clear Z hW hZs; go_must (refine (doubled_any _ _).mono ?_); rintro e w1 ⟨rfl, hb1⟩; have Z := ZW.trans (hb1.mono ZW.size); clear hb1 ZW) | (go_at_call 23; refine calls_name ?_; intro W hW; have hZs := Z.size; have ZW : Below w.heap.size w W := (by rw [hW]; exact (by repeat first | exact Below.refl _ _ | assumption | (refine Below.alloc ?_ (by first | omega | (simp; done) | (simp; omega)) _) | (refine Below.setCell ?_ (by first | omega | (simp; done) | (simp; omega)) _) | (refine Below.drew ?_) | (refine belowDrewN ?_) | (refine Below.trans ?_ (Below.mono (by assumption) (by first | omega | (simp; done) | (simp; omega)))))); clear Z hW hZs; go_must (refine (corrects_any _ _ _ _ _ _ (by decide) (by decide) (by decide)).mono ?_); rintro e w1 ⟨rfl, hb1⟩; have Z := ZW.trans (hb1.mono ZW.size); clear hb1 ZW))
  (refine calls_name ?_; intro W hW; have hZs := Z.size; have ZW : Below w.heap.size w W := (by rw [hW]; exact (by repeat first | exact Below.refl _ _ | assumption | (refine Below.alloc ?_ (by first | omega | (simp; done) | (simp; omega)) _) | (refine Below.setCell ?_ (by first | omega | (simp; done) | (simp; omega)) _) | (refine Below.drew ?_) | (refine belowDrewN ?_) | (refine Below.trans ?_ (Below.mono (by assumption) (by first | omega | (simp; done) | (simp; omega)))))); have BW : Blk W _ #[.int .i64 3, .int .i64 1, .int .i64 4, .int .i64 1] 67 := (by rw [hW]; exact Blk.new _ _ _); clear Z hW hZs; refine (pulseRun_any 3 60 5 7 0 60 (some ⟨_, 0, none⟩) 2 [(3, 1), (4, 1)] W (by decide) (by decide) (by decide) (isPairs_blk _ BW rfl (by decide)) (by decide)).mono ?_; rintro e w1 ⟨rfl, hb1⟩; have Z := ZW.trans (hb1.mono ZW.size); clear hb1 ZW BW; simp only [kn7])
  go_wp2_with (first | (go_at_call 32; refine calls_name ?_; intro W hW; have hZs := Z.size; have ZW : Below w.heap.size w W := (by rw [hW]; exact (by repeat first | exact Below.refl _ _ | assumption | (refine Below.alloc ?_ (by first | omega | (simp; done) | (simp; omega)) _) | (refine Below.setCell ?_ (by first | omega | (simp; done) | (simp; omega)) _) | (refine Below.drew ?_) | (refine belowDrewN ?_) | (refine Below.trans ?_ (Below.mono (by assumption) (by first | omega | (simp; done) | (simp; omega)))))); clear Z hW hZs; go_must (refine (lawLine_any _ _ _).mono ?_); rintro e w1 ⟨rfl, hb1⟩; have Z := ZW.trans (hb1.mono ZW.size); clear hb1 ZW) | (go_at_call 33; refine calls_name ?_; intro W hW; have hZs := Z.size; have ZW : Below w.heap.size w W := (by rw [hW]; exact (by repeat first | exact Below.refl _ _ | assumption | (refine Below.alloc ?_ (by first | omega | (simp; done) | (simp; omega)) _) | (refine Below.setCell ?_ (by first | omega | (simp; done) | (simp; omega)) _) | (refine Below.drew ?_) | (refine belowDrewN ?_) | (refine Below.trans ?_ (Below.mono (by assumption) (by first | omega | (simp; done) | (simp; omega)))))); clear Z hW hZs; go_must (refine (lost_any _ _).mono ?_); rintro e w1 ⟨rfl, hb1⟩; have Z := ZW.trans (hb1.mono ZW.size); clear hb1 ZW) | (go_at_call 34; refine calls_name ?_; intro W hW; have hZs := Z.size; have ZW : Below w.heap.size w W := (by rw [hW]; exact (by repeat first | exact Below.refl _ _ | assumption | (refine Below.alloc ?_ (by first | omega | (simp; done) | (simp; omega)) _) | (refine Below.setCell ?_ (by first | omega | (simp; done) | (simp; omega)) _) | (refine Below.drew ?_) | (refine belowDrewN ?_) | (refine Below.trans ?_ (Below.mono (by assumption) (by first | omega | (simp; done) | (simp; omega)))))); clear Z hW hZs; go_must (refine (doubled_any _ _).mono ?_); rintro e w1 ⟨rfl, hb1⟩; have Z := ZW.trans (hb1.mono ZW.size); clear hb1 ZW) | (go_at_call 23; refine calls_name ?_; intro W hW; have hZs := Z.size; have ZW : Below w.heap.size w W := (by rw [hW]; exact (by repeat first | exact Below.refl _ _ | assumption | (refine Below.alloc ?_ (by first | omega | (simp; done) | (simp; omega)) _) | (refine Below.setCell ?_ (by first | omega | (simp; done) | (simp; omega)) _) | (refine Below.drew ?_) | (refine belowDrewN ?_) | (refine Below.trans ?_ (Below.mono (by assumption) (by first | omega | (simp; done) | (simp; omega)))))); clear Z hW hZs; go_must (refine (corrects_any _ _ _ _ _ _ (by decide) (by decide) (by decide)).mono ?_); rintro e w1 ⟨rfl, hb1⟩; have Z := ZW.trans (hb1.mono ZW.size); clear hb1 ZW))
  refine calls_name ?_
  intro W hW
  have hZs := Z.size
  have ZW : Below w.heap.size w W := by rw [hW]; exact (by repeat first | exact Below.refl _ _ | assumption | (refine Below.alloc ?_ (by first | omega | (simp; done) | (simp; omega)) _) | (refine Below.setCell ?_ (by first | omega | (simp; done) | (simp; omega)) _) | (refine Below.drew ?_) | (refine belowDrewN ?_) | (refine Below.trans ?_ (Below.mono (by assumption) (by first | omega | (simp; done) | (simp; omega)))))
  have BW : Blk W w1.heap.size #[.int .i64 10, .int .i64 11, .int .i64 20, .int .i64 20] 53 := by rw [hW]; exact Blk.new _ _ _
  clear Z hW hZs
  refine (fewest_any 0 0 0 0 0 (some ⟨_, 0, none⟩) 2 [(10, 11), (20, 20)] W (by decide) (by decide) (by decide) (isPairs_blk _ BW rfl (by decide))).mono ?_
  rintro e w1 ⟨n, e', rfl, hb1, hout⟩
  obtain ⟨rfl, rfl⟩ := Pu.known_few hout
  have Z := ZW.trans (hb1.mono ZW.size)
  clear hb1 ZW BW hout
  go_wp2_with fail
  go_ret
  exact ret_bool rfl Z
end Go.Proofs.Ytpjlihkpnhamlaa
end

/- Contracts of pulse that were proved by hand, in the form of the symbolic ones. -/
section
set_option linter.unusedSimpArgs false
set_option linter.unusedVariables false
namespace Go.Proofs.Ytpjlihkpnhamlaa.Sy
open Go.RowKit

theorem FC.of_calls {P : Program} {f : Nat} {args : List AV} {need : List NEnt} {v : AV} (h : ∀ (env : Env) (w0 : World) (R0 : Nat → Prop), (∀ x ∈ need, x.holds env w0 (fun _ => False) R0) → (∀ b, R0 b → b < w0.heap.size) →
    Calls P f (AV.denL env args).toArray w0 (fun e w' => e = .returned (v.den env) ∧ Below w0.heap.size w0 w')) : FC P f args need v [] :=
  fun env w0 R0 hn hR => (h env w0 R0 hn hR).mono fun e w' ⟨he, hb⟩ => ⟨_, he, env, fun _ _ => False, R0, fun _ _ => rfl, rfl, ⟨Keep.of_below hb, by simp, by simp, by simp, fun b hb' => ⟨Nat.lt_of_lt_of_le (hR b hb') hb.size, .inr hb'⟩, fun _ h => h, by simp⟩⟩
theorem reads_pairs {fs : List (Int × Int)} {W : World} {R : Nat → Prop} {v : Value} (hR : ∀ b, R b → b < W.heap.size) (hl : fs.length ≤ 140737488355327) (h : reads 2 (List.map (fun x : Int × Int => [D.v (.int .i64 x.1), D.v (.int .i64 x.2)]) fs) W R v) :
    ∃ a cap, v = .slice a fs.length cap ∧ fs.length ≤ cap ∧ IsPairs W a fs := by
  obtain ⟨a, cap, hv, hle, hm, _, hc⟩ := h
  rw [List.length_map] at hv hle
  refine ⟨a, cap, hv, hle, hl, fun i hi => ?_⟩
  obtain ⟨_, h2⟩ := hc i _ (by rw [List.getElem?_map, List.getElem?_eq_getElem hi]; rfl)
  obtain ⟨b, o, ha, hb, u, hu, hd, _⟩ := h2 0 _ rfl
  obtain ⟨b', o', ha', hb', u', hu', hd', _⟩ := h2 1 _ rfl
  rw [ha] at ha'; cases ha'
  cases hd; cases hd'
  exact ⟨b, o, ha, hR b hb, hu, hu'⟩
def wf64 (z : Int) : Bool := (Lit.int .i64 z).wf

def ev_pulse_Run (n : Nat) (p1 p2 p3 sh f : Int) (fs : List (Int × Int)) (u : Int) : Option (Int × Int) := chk (decide (fs.length ≤ 140737488355327)) <| chk (wf64 p1) <| chk (wf64 p2) <| chk (wf64 p3) <| some (Pu.runVal ⟨p1, p2, p3⟩ sh f fs u)
theorem fc_pulse_Run {n : Nat} {p1 p2 p3 sh f : Int} {fs : List (Int × Int)} {u : Int} {r : Int × Int} (h : ev_pulse_Run n p1 p2 p3 sh f fs u = some r) :
    FC Try.prog 13 [.agg [.val (.int .i64 p1), .val (.int .i64 p2), .val (.int .i64 p3)], .val (.int .i64 sh), .val (.int .i64 f), .ref 0, .val (.int .i64 u)] [.ro 0 2 (List.map (fun x : Int × Int => [D.v (.int .i64 x.1), D.v (.int .i64 x.2)]) fs)] (.tup [.val (.int .i64 r.1), .val (.int .i64 r.2)]) [] := by
  obtain ⟨h0, h⟩ := chk_inv h
  obtain ⟨h1, h⟩ := chk_inv h
  obtain ⟨h2, h⟩ := chk_inv h
  obtain ⟨h3, h⟩ := chk_inv h
  cases h
  refine FC.of_calls fun env w0 R0 hn hR => ?_
  obtain ⟨a, cap, hv, hle, hp⟩ := reads_pairs hR (of_decide_eq_true h0) (hn _ (List.mem_singleton.2 rfl))
  have := pulseRun_any p1 p2 p3 sh f u a cap fs w0 h1 h2 h3 hp hle
  simp only [AV.denL, AV.den, hv, oneOf]
  exact this
def ev_pulse_Back (n : Nat) (p1 p2 p3 f : Int) (fs : List (Int × Int)) : Option (Int × Int) := chk (decide (fs.length ≤ 140737488355327)) <| chk (wf64 p1) <| chk (wf64 p2) <| chk (wf64 p3) <| some (Pu.backVal ⟨p1, p2, p3⟩ f fs)
theorem fc_pulse_Back {n : Nat} {p1 p2 p3 f : Int} {fs : List (Int × Int)} {r : Int × Int} (h : ev_pulse_Back n p1 p2 p3 f fs = some r) :
    FC Try.prog 21 [.agg [.val (.int .i64 p1), .val (.int .i64 p2), .val (.int .i64 p3)], .val (.int .i64 f), .ref 0] [.ro 0 2 (List.map (fun x : Int × Int => [D.v (.int .i64 x.1), D.v (.int .i64 x.2)]) fs)] (.tup [.val (.int .i64 r.1), .val (.int .i64 r.2)]) [] := by
  obtain ⟨h0, h⟩ := chk_inv h
  obtain ⟨h1, h⟩ := chk_inv h
  obtain ⟨h2, h⟩ := chk_inv h
  obtain ⟨h3, h⟩ := chk_inv h
  cases h
  refine FC.of_calls fun env w0 R0 hn hR => ?_
  obtain ⟨a, cap, hv, hle, hp⟩ := reads_pairs hR (of_decide_eq_true h0) (hn _ (List.mem_singleton.2 rfl))
  have := pulseBack_any p1 p2 p3 f a cap fs w0 h1 h2 h3 hp hle
  simp only [AV.denL, AV.den, hv, oneOf]
  exact this
def ev_pulse_Corrects (n : Nat) (p1 p2 p3 a b : Int) : Option (Bool × Int) := chk (wf64 p1) <| chk (wf64 p2) <| chk (wf64 p3) <| some (Pu.corrVal ⟨p1, p2, p3⟩ a b)
theorem fc_pulse_Corrects {n : Nat} {p1 p2 p3 a b : Int} {r : Bool × Int} (h : ev_pulse_Corrects n p1 p2 p3 a b = some r) :
    FC Try.prog 23 [.agg [.val (.int .i64 p1), .val (.int .i64 p2), .val (.int .i64 p3)], .val (.int .i64 a), .val (.int .i64 b)] [] (.tup [.val (.bool r.1), .val (.int .i64 r.2)]) [] := by
  obtain ⟨h1, h⟩ := chk_inv h
  obtain ⟨h2, h⟩ := chk_inv h
  obtain ⟨h3, h⟩ := chk_inv h
  cases h
  exact FC.of_calls fun env w0 R0 hn hR => corrects_any p1 p2 p3 a b w0 h1 h2 h3
open Classical in
/-- what Fewest answers; the specification says it, and only it -/
noncomputable def fewVal (l : Pu.Ln) (sh f : Int) (fs : List (Int × Int)) : Int × Int := if h : ∃ r : Int × Int, Pu.FewOut l sh f fs r.1 r.2 ∧ ∀ n e, Pu.FewOut l sh f fs n e → (n, e) = r then h.choose else (0, 0)
noncomputable def ev_pulse_Fewest (n : Nat) (p1 p2 p3 sh f : Int) (fs : List (Int × Int)) : Option (Int × Int) :=
  chk (decide (fs.length ≤ 140737488355327)) <| chk (wf64 p1) <| chk (wf64 p2) <| chk (wf64 p3) <| chk (@decide (∀ n e n' e', Pu.FewOut ⟨p1, p2, p3⟩ sh f fs n e → Pu.FewOut ⟨p1, p2, p3⟩ sh f fs n' e' → (n, e) = (n', e')) (Classical.propDecidable _)) <| some (fewVal ⟨p1, p2, p3⟩ sh f fs)
theorem few_val {l : Pu.Ln} {sh f : Int} {fs : List (Int × Int)} {n e : Int} (hu : ∀ n e n' e', Pu.FewOut l sh f fs n e → Pu.FewOut l sh f fs n' e' → (n, e) = (n', e')) (h : Pu.FewOut l sh f fs n e) : fewVal l sh f fs = (n, e) := by
  unfold fewVal
  have hx : ∃ r : Int × Int, Pu.FewOut l sh f fs r.1 r.2 ∧ ∀ n e, Pu.FewOut l sh f fs n e → (n, e) = r := ⟨(n, e), h, fun n' e' h' => hu _ _ _ _ h' h⟩
  rw [dif_pos hx]
  exact (hx.choose_spec.2 n e h).symm
theorem fc_pulse_Fewest {n : Nat} {p1 p2 p3 sh f : Int} {fs : List (Int × Int)} {r : Int × Int} (h : ev_pulse_Fewest n p1 p2 p3 sh f fs = some r) :
    FC Try.prog 27 [.agg [.val (.int .i64 p1), .val (.int .i64 p2), .val (.int .i64 p3)], .val (.int .i64 sh), .val (.int .i64 f), .ref 0] [.ro 0 2 (List.map (fun x : Int × Int => [D.v (.int .i64 x.1), D.v (.int .i64 x.2)]) fs)] (.tup [.val (.int .i64 r.1), .val (.int .i64 r.2)]) [] := by
  obtain ⟨h0, h⟩ := chk_inv h
  obtain ⟨h1, h⟩ := chk_inv h
  obtain ⟨h2, h⟩ := chk_inv h
  obtain ⟨h3, h⟩ := chk_inv h
  obtain ⟨h4, h⟩ := chk_inv h
  cases h
  refine FC.of_calls fun env w0 R0 hn hR => ?_
  obtain ⟨a, cap, hv, hle, hp⟩ := reads_pairs hR (of_decide_eq_true h0) (hn _ (List.mem_singleton.2 rfl))
  have := fewest_any p1 p2 p3 sh f a cap fs w0 h1 h2 h3 hp
  simp only [AV.denL, AV.den, hv, oneOf]
  refine this.mono ?_
  rintro e w' ⟨n, er, rfl, hb, ho⟩
  have := few_val (@of_decide_eq_true _ (Classical.propDecidable _) h4) ho
  rw [this]
  exact ⟨rfl, hb⟩
def ev_law09_known (n : Nat) : Option Bool := some true
theorem fc_law09_known {n : Nat} {r : Bool} (h : ev_law09_known n = some r) : FC Try.prog 11 [] [] (.val (.bool r)) [] := by
  cases h
  exact FC.of_calls fun env w0 R0 hn hR => known_any w0
end Go.Proofs.Ytpjlihkpnhamlaa.Sy
end
