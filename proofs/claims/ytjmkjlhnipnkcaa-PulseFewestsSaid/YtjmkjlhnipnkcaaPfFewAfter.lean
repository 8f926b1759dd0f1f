/- The walk of pulse.line.after: the costs behind the impulse of a minute. -/
import Derived.Test.YtjmkjlhnipnkcaaPfFewAdd
import Derived.Test.YtjmkjlhnipnkcaaPfPulseImp
set_option linter.unusedSimpArgs false
set_option linter.unusedVariables false
namespace Go.Proofs.Ytjmkjlhnipnkcaa
open Go.RowKit Go.Shelf Go.Maps
namespace Pu
def MinOf (R : Dl → Int → Prop) (g : Dl → Option Int) : Prop := ∀ d, (∀ c, g d = some c → R d c ∧ c ≤ 20) ∧ (∀ c, R d c → c ≤ 20 → ∃ c', g d = some c' ∧ c' ≤ c)
theorem MinOf.iff {R R' : Dl → Int → Prop} {g : Dl → Option Int} (h : MinOf R g) (hR : ∀ d c, R d c ↔ R' d c) : MinOf R' g :=
  fun d => ⟨fun c hc => ⟨(hR d c).1 ((h d).1 c hc).1, ((h d).1 c hc).2⟩, fun c hc h20 => (h d).2 c ((hR d c).2 hc) h20⟩
theorem MinOf.add {R : Dl → Int → Prop} {g : Dl → Option Int} (h : MinOf R g) (d : Dl) (c : Int) : MinOf (fun y x => R y x ∨ (y = d ∧ x = c)) (addF g d c) := by
  intro y;obtain ⟨h1, h2⟩ := h y;unfold addF
  split
  · rename_i hc
    unfold upd
    by_cases q : y = d
    · subst q;simp only [if_true];refine ⟨fun x hx => by cases hx; exact ⟨.inr (by simp), hc.1⟩, fun x hx h20 => ⟨c, rfl, ?_⟩⟩;rcases hx with hx | hx
      · obtain ⟨x', h3, h4⟩ := h2 x hx h20;have := hc.2 x' h3
        omega
      · omega
    · simp only [if_neg q];refine ⟨fun x hx => ⟨.inl (h1 x hx).1, (h1 x hx).2⟩, fun x hx h20 => ?_⟩;rcases hx with hx | hx
      · exact h2 x hx h20
      · exact absurd hx.1 q
  · rename_i hc
    refine ⟨fun x hx => ⟨.inl (h1 x hx).1, (h1 x hx).2⟩, fun x hx h20 => ?_⟩;rcases hx with hx | ⟨rfl, rfl⟩
    · exact h2 x hx h20
    · by_cases q : ∃ old, g y = some old ∧ old ≤ x
      · exact q
      · exact absurd ⟨h20, fun old ho => by
          rcases Int.lt_or_le x old with h | h
          · exact h
          · exact absurd ⟨old, ho, h⟩ q⟩ hc
def Contrib (l : Ln) (t : Int) (f : Dl → Option Int) (on : Dl → Prop) (d' : Dl) (c' : Int) : Prop :=
  ∃ d c, f d = some c ∧ on d ∧ ((d' = imp l t 1 d ∧ c' = c) ∨ (isLong l t = false ∧ c' = c + 1 ∧ (d' = imp l t 0 d ∨ d' = imp l t 2 d)))
theorem contrib_long {l : Ln} {t : Int} {f : Dl → Option Int} {left : Dl → Prop} {g : Dl → Option Int} {d : Dl} {x : Int} (h : MinOf (Contrib l t f (fun y => ¬ left y)) g) (hf : f d = some x) (hl : isLong l t = true) :
    MinOf (Contrib l t f (fun y => ¬(left y ∧ y ≠ d))) (addF g (imp l t 1 d) x) := by
  refine (h.add _ _).iff fun d' c' => ?_
  unfold Contrib
  constructor
  · rintro (⟨y, c, h1, h2, h3⟩ | ⟨rfl, rfl⟩)
    · exact ⟨y, c, h1, fun q => h2 q.1, h3⟩
    · exact ⟨d, _, hf, fun q => q.2 rfl, .inl ⟨rfl, rfl⟩⟩
  · rintro ⟨y, c, h1, h2, h3⟩
    by_cases q : y = d
    · subst q;rw [hf] at h1; cases h1;rcases h3 with h3 | ⟨h3, _⟩
      · exact .inr h3
      · rw [hl] at h3; cases h3
    · exact .inl ⟨y, c, h1, fun q' => h2 ⟨q', q⟩, h3⟩
theorem contrib_short {l : Ln} {t : Int} {f : Dl → Option Int} {left : Dl → Prop} {g : Dl → Option Int} {d : Dl} {x : Int} (h : MinOf (Contrib l t f (fun y => ¬ left y)) g) (hf : f d = some x) (hl : isLong l t = false) :
    MinOf (Contrib l t f (fun y => ¬(left y ∧ y ≠ d))) (addF (addF (addF g (imp l t 1 d) x) (imp l t 0 d) (x + 1)) (imp l t 2 d) (x + 1)) := by
  refine (((h.add _ _).add _ _).add _ _).iff fun d' c' => ?_
  unfold Contrib
  constructor
  · rintro (((⟨y, c, h1, h2, h3⟩ | ⟨rfl, rfl⟩) | ⟨rfl, rfl⟩) | ⟨rfl, rfl⟩)
    · exact ⟨y, c, h1, fun q => h2 q.1, h3⟩
    · exact ⟨d, _, hf, fun q => q.2 rfl, .inl ⟨rfl, rfl⟩⟩
    · exact ⟨d, _, hf, fun q => q.2 rfl, .inr ⟨hl, rfl, .inl rfl⟩⟩
    · exact ⟨d, _, hf, fun q => q.2 rfl, .inr ⟨hl, rfl, .inr rfl⟩⟩
  · rintro ⟨y, c, h1, h2, h3⟩
    by_cases q : y = d
    · subst q;rw [hf] at h1; cases h1;rcases h3 with h3 | ⟨_, h4, h3 | h3⟩
      · exact .inl (.inl (.inr h3))
      · exact .inl (.inr ⟨h3, h4⟩)
      · exact .inr ⟨h3, h4⟩
    · exact .inl (.inl (.inl ⟨y, c, h1, fun q' => h2 ⟨q', q⟩, h3⟩))
end Pu
structure AftI (w : World) (r e c : Int) (b n : Nat) (f : Pu.Dl → Option Int) (left : Pu.Dl → Prop) (cnt m : Nat) (g : Pu.Dl → Option Int) (W : World) : Prop where
  low : Below w.heap.size w W
  ln : Blk W w.heap.size #[.int .i64 r, .int .i64 e, .int .i64 c] 64
  rg : IRange dialE 3 W b (w.heap.size + 1 + 1) n f left cnt
  mp : IMap dialE 3 W (w.heap.size + 1) m g
theorem AftI.below {w : World} {r e c : Int} {b n : Nat} {f : Pu.Dl → Option Int} {left : Pu.Dl → Prop} {cnt m : Nat} {g : Pu.Dl → Option Int} {W W' : World} (h : AftI w r e c b n f left cnt m g W) (hb : Below W.heap.size W W') : AftI w r e c b n f left cnt m g W' :=
  ⟨h.low.trans (hb.mono h.low.size), h.ln.below hb, h.rg.below hb, h.mp.below hb⟩
theorem AftI.add {w : World} {r e c : Int} {b n : Nat} {f : Pu.Dl → Option Int} {left : Pu.Dl → Prop} {cnt m m' : Nat} {g g' : Pu.Dl → Option Int} {W W' : World} (h : AftI w r e c b n f left cnt m g W) (hb : b < w.heap.size) (hk : Keeps (fun y => y = w.heap.size + 1) W W') (hm : IMap dialE 3 W' (w.heap.size + 1) m' g') : AftI w r e c b n f left cnt m' g' W' :=
  ⟨h.low.trans (hk.to_below h.low.size (fun b hb => by omega)), hk.blk h.ln (by omega), h.rg.keeps hk (by omega) (by omega), hm⟩
theorem AftI.next {w : World} {r e c : Int} {b n : Nat} {f : Pu.Dl → Option Int} {left left' : Pu.Dl → Prop} {cnt cnt' m : Nat} {g : Pu.Dl → Option Int} {W W' : World} (h : AftI w r e c b n f left cnt m g W) (hk : Keeps (fun y => y = w.heap.size + 1 + 1) W W') (hr : IRange dialE 3 W' b (w.heap.size + 1 + 1) n f left' cnt') : AftI w r e c b n f left' cnt' m g W' :=
  ⟨h.low.trans (hk.to_below h.low.size (fun b hb => by omega)), hk.blk h.ln (by omega), hr, h.mp.keeps hk (by omega)⟩
theorem AftI.iff {w : World} {r e c : Int} {b n : Nat} {f : Pu.Dl → Option Int} {left left' : Pu.Dl → Prop} {cnt m : Nat} {g : Pu.Dl → Option Int} {W : World} (h : AftI w r e c b n f left cnt m g W) (hl : ∀ d, dialE.ok d → (left d ↔ left' d)) : AftI w r e c b n f left' cnt m g W :=
  ⟨h.low, h.ln, h.rg.iff hl, h.mp⟩
def AfterPost (r e c t : Int) (n : Nat) (f : Pu.Dl → Option Int) (w : World) (en : Ending) (w' : World) : Prop :=
  ∃ b' g, en = .returned (.map (some b')) ∧ w.heap.size ≤ b' ∧ Below w.heap.size w w' ∧ IMap dialE 3 w' b' (3 * n) g ∧ Pu.MinOf (Pu.Contrib ⟨r, e, c⟩ t f (fun _ => True)) g
def AfterRel (w : World) (r e c t : Int) (b n : Nat) (f : Pu.Dl → Option Int) (W : World) : Prop :=
  ∃ left cnt m g, AftI w r e c b n f left cnt m g W ∧ m + 3 * cnt ≤ 3 * n ∧ Pu.MinOf (Pu.Contrib ⟨r, e, c⟩ t f (fun d => ¬ left d)) g
set_option maxHeartbeats 1000000 in
theorem after_any (r e c t : Int) (b n : Nat) (f : Pu.Dl → Option Int) (w : World) (hl : (Pu.Ln.mk r e c).ok) (ht : 0 ≤ t) (h : IMap dialE 3 w b n f) (hn : 3 * n < 140737488355327) (hf : ∀ d x, f d = some x → d.ok 400000 ∧ 0 ≤ x ∧ x ≤ 20) :
    Calls Try.prog 40 #[.agg #[.int .i64 r, .int .i64 e, .int .i64 c], .map (some b), .int .i64 t] w (AfterPost r e c t n f w) := by
  have hlt := h.lt;have H := Lib.hid h; clear h;have HF := Lib.hid hf; clear hf;have HL := Lib.hid hl; clear hl;have hmm := @run_makeMap Try.prog;have h3 : 0 < n ∨ n = 0 := by omega
  go_enter Try.func40, Try.ntmps40
  go_wp2_with (at_range; refine wpList_imap_range dialE _ rfl _ 78 rfl 3 Try.underlying78 b n f rfl ((H.out.alloc _).alloc _) ?_; intro w0 cnt0 hrg0 hcn0 hb0 hs0)
  have hz1 : ((w.alloc (.cells #[.int .i64 r, .int .i64 e, .int .i64 c] 64)).alloc (.map #[] 0)).heap.size = w.heap.size + 1 + 1 := by simp
  rw [hz1] at hrg0 hb0 ⊢;have A0 : AftI w r e c b n f (fun d => ∃ c, f d = some c) cnt0 0 (fun _ => none) w0 := by
    refine ⟨Below.trans (b := _) (by repeat first | exact Below.refl _ _ | assumption | (refine Below.alloc ?_ (by first | omega | (simp; done) | (simp; omega)) _) | (refine Below.setCell ?_ (by first | omega | (simp; done) | (simp; omega)) _) | (refine Below.drew ?_) | (refine belowDrewN ?_) | (refine Below.trans ?_ (Below.mono (by assumption) (by first | omega | (simp; done) | (simp; omega))))) (Below.mono hb0 (by omega)), (hb0.block w.heap.size (by omega)).trans (by repeat first | exact blk_at (by first | rfl | omega | (simp; done) | (simp; omega)) | assumption | refine Blk.alloc ?_ _ | refine Blk.drew ?_ | refine Blk.drewN ?_ _ | (refine Blk.other ?_ _ (by first | omega | (simp; done) | (simp; omega))) | (refine Blk.below ?_ (by assumption))), hrg0, ?_⟩;have := IMap.made (e := 3) dialE (w.alloc (.cells #[.int .i64 r, .int .i64 e, .int .i64 c] 64));rw [show (w.alloc (.cells #[.int .i64 r, .int .i64 e, .int .i64 c] 64)).heap.size = w.heap.size + 1 by simp] at this;exact this.of_heap (hb0.block _ (by omega))
  have R0 : AfterRel w r e c t b n f w0 := ⟨_, _, 0, _, A0, by omega, fun d => ⟨fun x hx => (by cases hx), fun x hx => by
    obtain ⟨d', y, h1, h2, _⟩ := hx;exact absurd ⟨y, h1⟩ h2⟩⟩
  clear A0 hrg0 hb0 hs0 hz1 hcn0
  go_frame
  go_loopw [9] (fun _ wr => AfterRel w r e c t b n f wr) (fun _ wr => wr.rangeLeft b (w.heap.size + 1 + 1))
  case atStart => exact R0
  case round =>
    obtain ⟨left, cnt, m, g, A, hmc, hmin⟩ := hrel;have HA := Lib.hid A; have HM := Lib.hid hmin
    clear A R0 hmin
    go_wp2_with (at_next; refine wpList_imap_next dialE _ rfl _ rfl 3 Try.underlying3 b (w.heap.size + 1 + 1) n f left cnt rfl HA.out.rg ?_ ?_)
    · intro hdone
      go_wp2_with fail
      go_ret
      have A := HA.out;refine ⟨_, g, rfl, by omega, A.low, A.mp.mono (by omega), HM.out.iff fun d' c' => ?_⟩;unfold Pu.Contrib
      constructor
      · rintro ⟨d, y, h1, _, h2⟩; exact ⟨d, y, h1, trivial, h2⟩
      · rintro ⟨d, y, h1, _, h2⟩; exact ⟨d, y, h1, hdone d (A.rg.owns.ok h1).1, h2⟩
    · intro d x w2 cnt2 hd hfd hld hrg2 hlt2 hk2 hs2 hen;obtain ⟨s, k⟩ := d;obtain ⟨⟨x0, x1, x2, x3⟩, x4, x5⟩ := HF.out _ _ hfd;dsimp only at x0 x1 x2 x3;simp only [dialE_kv] at hen ⊢;have A2 := HA.out.next hk2 hrg2;have o1 := Pu.imp_ok (l := ⟨r, e, c⟩) (t := t) (m := 1) (d := ⟨s, k⟩) (B := 400000) ⟨x0, x1, x2, x3⟩ (by omega);have o0 := Pu.imp_ok (l := ⟨r, e, c⟩) (t := t) (m := 0) (d := ⟨s, k⟩) (B := 400000) ⟨x0, x1, x2, x3⟩ (by omega);have o2 := Pu.imp_ok (l := ⟨r, e, c⟩) (t := t) (m := 2) (d := ⟨s, k⟩) (B := 400000) ⟨x0, x1, x2, x3⟩ (by omega);have I1 : Hid (∀ W, Calls Try.prog 50 #[.agg #[.int .i64 r, .int .i64 e, .int .i64 c], .agg #[.int .i64 s, .int .i64 k], .int .i64 t, .int .i64 1] W (Ret W (.agg #[.int .i64 (Pu.imp ⟨r, e, c⟩ t 1 ⟨s, k⟩).s, .int .i64 (Pu.imp ⟨r, e, c⟩ t 1 ⟨s, k⟩).k]))) := Lib.hid (fun W => impulse_any r e c s k t 1 W HL.out ht (by omega) x0 x1 x2 (by omega));have I0 : Hid (∀ W, Calls Try.prog 50 #[.agg #[.int .i64 r, .int .i64 e, .int .i64 c], .agg #[.int .i64 s, .int .i64 k], .int .i64 t, .int .i64 0] W (Ret W (.agg #[.int .i64 (Pu.imp ⟨r, e, c⟩ t 0 ⟨s, k⟩).s, .int .i64 (Pu.imp ⟨r, e, c⟩ t 0 ⟨s, k⟩).k]))) := Lib.hid (fun W => impulse_any r e c s k t 0 W HL.out ht (by omega) x0 x1 x2 (by omega));have I2 : Hid (∀ W, Calls Try.prog 50 #[.agg #[.int .i64 r, .int .i64 e, .int .i64 c], .agg #[.int .i64 s, .int .i64 k], .int .i64 t, .int .i64 2] W (Ret W (.agg #[.int .i64 (Pu.imp ⟨r, e, c⟩ t 2 ⟨s, k⟩).s, .int .i64 (Pu.imp ⟨r, e, c⟩ t 2 ⟨s, k⟩).k]))) := Lib.hid (fun W => impulse_any r e c s k t 2 W HL.out ht (by omega) x0 x1 x2 (by omega));have IL := Lib.hid (fun W => isLong_any r e c t W HL.out ht);obtain ⟨D1, hD1⟩ : ∃ D, Pu.imp ⟨r, e, c⟩ t 1 ⟨s, k⟩ = D := ⟨_, rfl⟩;obtain ⟨D0, hD0⟩ : ∃ D, Pu.imp ⟨r, e, c⟩ t 0 ⟨s, k⟩ = D := ⟨_, rfl⟩;obtain ⟨D2, hD2⟩ : ∃ D, Pu.imp ⟨r, e, c⟩ t 2 ⟨s, k⟩ = D := ⟨_, rfl⟩;obtain ⟨lg, hlg⟩ : ∃ lg, Pu.isLong ⟨r, e, c⟩ t = lg := ⟨_, rfl⟩;rw [hD1] at I1 o1; rw [hD0] at I0 o0; rw [hD2] at I2 o2; rw [hlg] at IL;have E1 := Lib.hid hD1; have E0 := Lib.hid hD0; have E2 := Lib.hid hD2; have EL := Lib.hid hlg; have HX := Lib.hid hfd
      clear hD1 hD0 hD2 hlg hfd
      have k1 : dialE.ok D1 := dialE_ok (by have := o1.1; omega) (by have := o1.2.1; omega) (by have := o1.2.2.1; omega) (by have := o1.2.2.2; omega);have k0 : dialE.ok D0 := dialE_ok (by have := o0.1; omega) (by have := o0.2.1; omega) (by have := o0.2.2.1; omega) (by have := o0.2.2.2; omega);have k2 : dialE.ok D2 := dialE_ok (by have := o2.1; omega) (by have := o2.2.1; omega) (by have := o2.2.2.1; omega) (by have := o2.2.2.2; omega)
      clear o0 o1 o2
      obtain ⟨s1, j1⟩ := D1; obtain ⟨s0, j0⟩ := D0; obtain ⟨s2, j2⟩ := D2;dsimp only at I1 I0 I2;have hb1' : w.heap.size + 1 < w2.heap.size := A2.mp.lt
      clear hs2
      have hlw : w.heap.size < w2.heap.size := by omega
      have l0 := A2.ln.cell 0 rfl; have l1 := A2.ln.cell 1 rfl; have l2 := A2.ln.cell 2 rfl
      go_wp2_with fail
      refine calls_name ?_;intro W hW;have BX : Blk W w2.heap.size #[.int .i64 s, .int .i64 k] 72 := by rw [hW]; exact (by repeat first | exact blk_at (by first | rfl | omega | (simp; done) | (simp; omega)) | assumption | refine Blk.alloc ?_ _ | refine Blk.drew ?_ | refine Blk.drewN ?_ _ | (refine Blk.other ?_ _ (by first | omega | (simp; done) | (simp; omega))) | (refine Blk.below ?_ (by assumption)))
      have A3 := A2.below (W' := W) (by rw [hW]; exact (by repeat first | exact Below.refl _ _ | assumption | (refine Below.alloc ?_ (by first | omega | (simp; done) | (simp; omega)) _) | (refine Below.setCell ?_ (by first | omega | (simp; done) | (simp; omega)) _) | (refine Below.drew ?_) | (refine belowDrewN ?_) | (refine Below.trans ?_ (Below.mono (by assumption) (by first | omega | (simp; done) | (simp; omega))))))
      clear hW A2 hen hrg2 l0 l1 l2
      refine (I1.out W).mono ?_
      rintro e w1 ⟨rfl, hb1⟩; obtain ⟨hc1, hf1, hs1⟩ := bcell hb1; have hz1 := hb1.size; (try simp at hz1)
      have A4 := A3.below hb1; have B4 := BX.below hb1
      clear hc1 hf1 hs1 A3 BX
      go_wp2_with fail
      refine (add_any (w.heap.size + 1) m g s1 j1 x w1 A4.mp (by unfold maxLen; omega) k1 (WalkArith.wf_i64 ⟨by omega, by omega⟩)).mono ?_
      rintro en w3 ⟨rfl, hk3, hm3⟩
      have A5 := A4.add hlt hk3 hm3; have B5 := hk3.blk B4 (by omega)
      clear A4 B4 hk3 hm3 hb1 hz1
      have c0 := A5.ln.cell 0 rfl; have c1 := A5.ln.cell 1 rfl; have c2 := A5.ln.cell 2 rfl
      go_wp2_with fail
      refine (IL.out w3).mono ?_
      rintro e w1 ⟨rfl, hb1⟩; obtain ⟨hc1, hf1, hs1⟩ := bcell hb1; have hz1 := hb1.size; (try simp at hz1)
      have A6 := A5.below hb1; have B6 := B5.below hb1
      clear A5 B5 hc1 hf1 hs1 c0 c1 c2 hb1
      cases lg
      · have c0 := A6.ln.cell 0 rfl; have c1 := A6.ln.cell 1 rfl; have c2 := A6.ln.cell 2 rfl;have c3 := B6.cell 0 rfl; have c4 := B6.cell 1 rfl
        go_wp2_with fail
        refine (I0.out w1).mono ?_
        rintro e w1 ⟨rfl, hb1⟩; obtain ⟨hc1, hf1, hs1⟩ := bcell hb1; have hz1 := hb1.size; (try simp at hz1)
        have A7 := A6.below hb1; have B7 := B6.below hb1
        clear A6 B6 hc1 hf1 hs1 hb1 c0 c1 c2 c3 c4
        go_wp2_with fail
        refine (add_any (w.heap.size + 1) (m + 1) _ s0 j0 (x + 1) w1 A7.mp (by unfold maxLen; omega) k0 (WalkArith.wf_i64 ⟨by omega, by omega⟩)).mono ?_
        rintro en w4 ⟨rfl, hk4, hm4⟩
        have A8 := A7.add hlt hk4 hm4; have B8 := hk4.blk B7 (by omega)
        clear A7 B7 hk4 hm4 hz1
        have c0 := A8.ln.cell 0 rfl; have c1 := A8.ln.cell 1 rfl; have c2 := A8.ln.cell 2 rfl;have c3 := B8.cell 0 rfl; have c4 := B8.cell 1 rfl
        go_wp2_with fail
        refine (I2.out w4).mono ?_
        rintro e w1 ⟨rfl, hb1⟩; obtain ⟨hc1, hf1, hs1⟩ := bcell hb1; have hz1 := hb1.size; (try simp at hz1)
        have A9 := A8.below hb1; have B9 := B8.below hb1
        clear A8 B8 hc1 hf1 hs1 hb1 c0 c1 c2 c3 c4
        go_wp2_with fail
        refine (add_any (w.heap.size + 1) (m + 1 + 1) _ s2 j2 (x + 1) w1 A9.mp (by unfold maxLen; omega) k2 (WalkArith.wf_i64 ⟨by omega, by omega⟩)).mono ?_
        rintro en w5 ⟨rfl, hk5, hm5⟩
        have A10 := A9.add hlt hk5 hm5
        clear A9 B9 hk5 hm5 hz1
        go_wp2_with fail
        have hfin := Pu.contrib_short HM.out HX.out EL.out;rw [E1.out, E0.out, E2.out] at hfin;exact ⟨⟨_, cnt2, _, _, A10, by omega, hfin⟩, by rw [A10.rg.left_eq, HA.out.rg.left_eq]; exact hlt2⟩
      · go_wp2_with fail
        have hfin := Pu.contrib_long HM.out HX.out EL.out;rw [E1.out] at hfin;exact ⟨⟨_, cnt2, _, _, A6, by omega, hfin⟩, by rw [A6.rg.left_eq, HA.out.rg.left_eq]; exact hlt2⟩
end Go.Proofs.Ytjmkjlhnipnkcaa
