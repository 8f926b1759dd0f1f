/- The walk of pulse.Fewest, where all is in order. -/
import Derived.Test.YtjmkjlhnipnkcaaPfFewPlain
import Derived.Test.YtjmkjlhnipnkcaaPfFewDel
import Derived.Test.YtjmkjlhnipnkcaaPfFewColl
import Derived.Test.YtjmkjlhnipnkcaaPfPulseOpen
set_option linter.unusedSimpArgs false
set_option linter.unusedVariables false
namespace Go.Proofs.Ytjmkjlhnipnkcaa
open Go.RowKit Go.Shelf Go.Maps
def NB : Nat := 7459921
theorem nb_eq : NB = 7459921 := rfl
theorem dial_bound {w : World} {b n : Nat} {f : Pu.Dl → Option Int} (h : IMap dialE 3 w b n f) (hf : ∀ d x, f d = some x → d.ok 10360) : IMap dialE 3 w b NB f :=
  h.bound NB (fun d => (d.s + 720 * d.k).toNat) (fun d c hd => by obtain ⟨h1, h2, h3, h4⟩ := hf d c hd; simp only [nb_eq]; omega) (fun d d' c c' hd hd' he => by
    obtain ⟨h1, h2, h3, h4⟩ := hf d c hd;obtain ⟨g1, g2, g3, g4⟩ := hf d' c' hd';cases d; cases d'
    simp only at *
    congr 1 <;> omega)
structure FewI (w : World) (LB : Nat) (r e c : Int) (R : Pu.Dl → Int → Prop) (B : Int) (b : Nat) (g : Pu.Dl → Option Int) (W : World) : Prop where
  low : Below w.heap.size w W
  ln : Blk W LB #[.int .i64 r, .int .i64 e, .int .i64 c] 64
  mp : IMap dialE 3 W b NB g
  ne : LB ≠ b
  bl : w.heap.size ≤ b
  mn : Pu.MinOf R g
  ok : Pu.OkR B R
  
theorem FewI.vals {w : World} {LB : Nat} {r e c : Int} {R : Pu.Dl → Int → Prop} {B : Int} {b : Nat} {g : Pu.Dl → Option Int} {W : World} (h : FewI w LB r e c R B b g W) (hB : B ≤ 400000) : ∀ d x, g d = some x → d.ok 400000 ∧ 0 ≤ x ∧ x ≤ 20 := fun d x hx => by
  have h1 := (h.mn d).1 x hx;have h2 := h.ok d x h1.1;unfold Pu.Dl.ok at *
  omega
theorem FewI.below {w : World} {LB : Nat} {r e c : Int} {R : Pu.Dl → Int → Prop} {B : Int} {b : Nat} {g : Pu.Dl → Option Int} {W W' : World} (h : FewI w LB r e c R B b g W) (hb : Below W.heap.size W W') : FewI w LB r e c R B b g W' :=
  ⟨h.low.trans (hb.mono h.low.size), h.ln.below hb, h.mp.below hb, h.ne, h.bl, h.mn, h.ok⟩
theorem FewI.step {w : World} {LB : Nat} {r e c t : Int} {R : Pu.Dl → Int → Prop} {B : Int} {b b' n : Nat} {g g' : Pu.Dl → Option Int} {W W' : World} (h : FewI w LB r e c R B b g W) (hb : Below W.heap.size W W') (hB : 0 ≤ B) (hB2 : B + 2 ≤ 10360)
    (hm : IMap dialE 3 W' b' n g') (hmin : Pu.MinOf (Pu.Contrib ⟨r, e, c⟩ t g (fun _ => True)) g') (hn : W.heap.size ≤ b') : FewI w LB r e c (Pu.stepR ⟨r, e, c⟩ t R) (B + 2) b' g' W' := by
  have hmn := h.mn.step hmin;have hok := h.ok.step (l := ⟨r, e, c⟩) (t := t) hB;refine ⟨h.low.trans (hb.mono h.low.size), h.ln.below hb, dial_bound hm (fun d x hx => ?_), by have := h.ln.lt; omega, Nat.le_trans h.low.size hn, hmn, hok⟩;have h2 := hok d x ((hmn d).1 x hx).1;unfold Pu.Dl.ok at *
  omega
theorem FewI.filt {w : World} {LB : Nat} {r e c sh : Int} {R : Pu.Dl → Int → Prop} {B : Int} {b : Nat} {g : Pu.Dl → Option Int} {W W' : World} (h : FewI w LB r e c R B b g W) (hk : Keeps (fun y => y = b) W W') (hm : IMap dialE 3 W' b NB (Pu.keepF g sh)) : FewI w LB r e c (Pu.filtR sh R) B b (Pu.keepF g sh) W' :=
  ⟨h.low.trans (hk.to_below h.low.size (fun x hx => by rw [hx]; exact h.bl)), hk.blk h.ln h.ne, hm, h.ne, h.bl, h.mn.filt sh, h.ok.filt⟩
theorem FewI.none {w : World} {LB : Nat} {r e c : Int} {R R' : Pu.Dl → Int → Prop} {B B' : Int} {b : Nat} {g : Pu.Dl → Option Int} {W : World} (h : FewI w LB r e c R B b g W) (hR : Pu.NoneR R') (hg : ∀ d, g d = none) (ho : Pu.OkR B' R') : FewI w LB r e c R' B' b g W :=
  ⟨h.low, h.ln, h.mp, h.ne, h.bl, hR.minOf hg, ho⟩
theorem FewI.mono {w : World} {LB : Nat} {r e c : Int} {R : Pu.Dl → Int → Prop} {B B' : Int} {b : Nat} {g : Pu.Dl → Option Int} {W : World} (h : FewI w LB r e c R B b g W) (hB : B ≤ B') : FewI w LB r e c R B' b g W :=
  ⟨h.low, h.ln, h.mp, h.ne, h.bl, h.mn, fun d x hx => by have := h.ok d x hx; unfold Pu.Dl.ok at *; omega⟩
def FewIn (w : World) (LB : Nat) (r e c : Int) (R : Pu.Dl → Int → Prop) (B0 last v : Int) (b : Nat) (g : Pu.Dl → Option Int) (W : World) : Prop :=
  (∃ n : Nat, v = last + n ∧ FewI w LB r e c (Pu.stepsR ⟨r, e, c⟩ last R n) (B0 + 2 * n) b g W) ∨ ((∀ d, g d = none) ∧ FewI w LB r e c R B0 b g W)
theorem FewIn.done {w : World} {LB : Nat} {r e c : Int} {R : Pu.Dl → Int → Prop} {B0 last v At : Int} {b : Nat} {g : Pu.Dl → Option Int} {W : World} (h : FewIn w LB r e c R B0 last v b g W) (hx : v = At ∨ ∀ d, g d = none) (h1 : v ≤ At) (h2 : last ≤ At) (hO : Pu.OkR B0 R) (hB : 0 ≤ B0) :
    FewI w LB r e c (Pu.stepsR ⟨r, e, c⟩ last R (At - last).toNat) (B0 + 2 * (At - last)) b g W := by
  have hok := hO.steps (l := ⟨r, e, c⟩) (t := last) hB (At - last).toNat;rw [show B0 + 2 * ((At - last).toNat : Int) = B0 + 2 * (At - last) by omega] at hok;rcases h with ⟨n, rfl, h⟩ | ⟨hg, h⟩
  · rcases hx with hx | hx
    · rw [show (At - last).toNat = n by omega];exact h.mono (by omega)
    · obtain ⟨k, hk⟩ : ∃ k, (At - last).toNat = n + k := ⟨(At - last).toNat - n, by omega⟩;exact h.none (by rw [hk]; exact (h.mn.none hx).steps k) hx hok
  · refine h.none ?_ hg hok;have := (Pu.NoneR.steps (n := 0) (l := ⟨r, e, c⟩) (t := last) (R := R) (h.mn.none hg) (At - last).toNat)
    rwa [Nat.zero_add] at this
theorem FewIn.below {w : World} {LB : Nat} {r e c : Int} {R : Pu.Dl → Int → Prop} {B0 last v : Int} {b : Nat} {g : Pu.Dl → Option Int} {W W' : World} (h : FewIn w LB r e c R B0 last v b g W) (hb : Below W.heap.size W W') : FewIn w LB r e c R B0 last v b g W' := by
  rcases h with ⟨n, h1, h2⟩ | ⟨h1, h2⟩
  · exact .inl ⟨n, h1, h2.below hb⟩
  · exact .inr ⟨h1, h2.below hb⟩
theorem FewIn.mp {w : World} {LB : Nat} {r e c : Int} {R : Pu.Dl → Int → Prop} {B0 last v : Int} {b : Nat} {g : Pu.Dl → Option Int} {W : World} (h : FewIn w LB r e c R B0 last v b g W) : IMap dialE 3 W b NB g ∧ LB ≠ b ∧ w.heap.size ≤ b ∧ Blk W LB #[.int .i64 r, .int .i64 e, .int .i64 c] 64 ∧ Below w.heap.size w W := by
  rcases h with ⟨n, h1, h2⟩ | ⟨h1, h2⟩
  · exact ⟨h2.mp, h2.ne, h2.bl, h2.ln, h2.low⟩
  · exact ⟨h2.mp, h2.ne, h2.bl, h2.ln, h2.low⟩
theorem few_min {R : Pu.Dl → Int → Prop} {g : Pu.Dl → Option Int} {n : Nat} {x : Int} {tl : List Int} (h : Pu.MinOf R g) (ha : ValsAll n g (x :: tl)) : Pu.FewSpec R (minL tl x) 0 := by
  obtain ⟨h1, h2, h3⟩ := minL_le tl x;have hmem : minL tl x ∈ x :: tl := by rcases h3 with h | h; rw [h]; simp; exact List.mem_cons_of_mem _ h
  obtain ⟨d, hd⟩ := ha.1.2 _ hmem;have hd2 := (h d).1 _ hd;refine .inl ⟨rfl, hd2.2, ⟨d, hd2.1⟩, fun d' c hc => ?_⟩;rcases Int.lt_or_le 20 c with q | q
  · omega
  · obtain ⟨c', h4, h5⟩ := (h d').2 c hc q;have h6 := ha.2 d' c' h4;rcases List.mem_cons.1 h6 with h | h
    · omega
    · have := h2 c' h; omega
def FewPost (l : Pu.Ln) (sh f : Int) (fs : List (Int × Int)) (w : World) (en : Ending) (w' : World) : Prop :=
  ∃ n e, en = .returned (.tuple #[.int .i64 n, .int .i64 e]) ∧ Below w.heap.size w w' ∧ Pu.FewOut l sh f fs n e
def FewOutRel (w : World) (LB : Nat) (r e c f : Int) (d0 : Pu.Dl) (fs : List (Int × Int)) (i m tt : Value) (wr : World) : Prop :=
  ∃ (k b : Nat) (g : Pu.Dl → Option Int) (v : Int), k ≤ fs.length ∧ i = .int .i64 k ∧ m = .map (some b) ∧ tt = .int .i64 v ∧
    FewI w LB r e c (Pu.seenR ⟨r, e, c⟩ (Pu.startR d0) f (fs.take k)) (360 + 2 * (Pu.lastS f (fs.take k) - f)) b g wr ∧ f ≤ v ∧ v ≤ Pu.lastS f (fs.take k) ∧ (v = Pu.lastS f (fs.take k) ∨ ∀ d, g d = none)
def FewInRel (w : World) (LB X : Nat) (r e c f : Int) (R : Pu.Dl → Int → Prop) (B0 last At sh : Int) (m tt : Value) (wr : World) : Prop :=
  ∃ (b : Nat) (g : Pu.Dl → Option Int) (v : Int), m = .map (some b) ∧ tt = .int .i64 v ∧ FewIn w LB r e c R B0 last v b g wr ∧ f ≤ v ∧ v ≤ At ∧ X ≠ b ∧ Blk wr X #[.int .i64 At, .int .i64 sh] 53
theorem Pu.lastS_ge {f : Int} : ∀ {fs : List (Int × Int)} {v : Int} (k : Nat), Pu.chkSn f v fs = true → v ≤ Pu.lastS v (fs.take k) ∧ (∀ (h : k < fs.length), Pu.lastS v (fs.take k) + 1 ≤ fs[k].1 ∧ fs[k].1 ≤ f + 5000)
  | [], v, k, _ => by simp [Pu.lastS]
  | x :: tl, v, 0, h => by
    rw [Pu.chkSn] at h;simp only [Bool.and_eq_true, decide_eq_true_eq] at h;exact ⟨Int.le_refl _, fun _ => h.1.1⟩
  | x :: tl, v, k + 1, h => by
    rw [Pu.chkSn] at h;simp only [Bool.and_eq_true, decide_eq_true_eq] at h;obtain ⟨h1, h2⟩ := Pu.lastS_ge k h.2;refine ⟨by simp only [List.take_succ_cons, Pu.lastS]; omega, fun hk => ?_⟩;simp only [List.take_succ_cons, Pu.lastS, List.getElem_cons_succ];exact h2 (by simpa using hk)
theorem Pu.seen_ok {f : Int} {fs : List (Int × Int)} (h : Pu.seenErr f fs = 0) : fs.length ≤ 40 ∧ Pu.chkSn f f fs = true := by
  unfold Pu.seenErr at h
  split at h
  · simp at h
  · split at h
    · exact ⟨by omega, by assumption⟩
    · simp at h
set_option maxRecDepth 100000 in
set_option maxHeartbeats 1000000 in
theorem fewest_ok (r e c sh f : Int) (a : Option Addr) (cp : Nat) (fs : List (Int × Int)) (w : World) (hr : (Lit.int .i64 r).wf = true) (he : (Lit.int .i64 e).wf = true) (hc : (Lit.int .i64 c).wf = true) (hf : IsPairs w a fs)
    (h1 : Pu.lineErr r e c = 0) (hm : btw 0 100000 f = true) (hs : btw 0 719 sh = true) (hk : Pu.seenErr f fs = 0) :
    Calls Try.prog 23 #[.agg #[.int .i64 r, .int .i64 e, .int .i64 c], .int .i64 sh, .int .i64 f, .slice a fs.length cp] w (FewPost ⟨r, e, c⟩ sh f fs w) := by
  have HO := Lib.hid (fun W => open_any r e c W hr he hc);have hok := Pu.ok_of_err h1;rw [h1] at HO;have hm' := btw_iff.1 hm;have hs' := btw_iff.1 hs;have HK := Lib.hid (fun W (hW : Below w.heap.size w W) => checkSeen_any f a cp fs W (hf.below hW) (by omega) (by omega));rw [hk] at HK;have HF := Lib.hid hf;have HS := Lib.hid (fun W => start_any r e c sh f W hok hm'.1);have hso := Pu.start_ok (s := sh) (t := f) hok hs'.1 (by omega) hm'.1;obtain ⟨d0, hd0⟩ : ∃ d, Pu.start ⟨r, e, c⟩ sh f = d := ⟨_, rfl⟩;rw [hd0] at HS hso;have HD := Lib.hid hd0;have HL := Lib.hid hok;have hsk := Pu.seen_ok hk;have HSK := Lib.hid hsk.2;have H1 := Lib.hid h1; have HKK := Lib.hid hk;have hlen := hsk.1
  clear h1 hf hd0 hok hk hsk
  have hmm := @run_makeMap Try.prog;obtain ⟨s0, k0⟩ := d0;dsimp only at HS;have hd : dialE.ok ⟨s0, k0⟩ := dialE_ok (by have := hso.1; omega) (by have := hso.2.1; omega) (by have := hso.2.2.1; omega) (by have := hso.2.2.2; omega)
  go_enter Try.func23, Try.ntmps23
  go_wp2_with (first | (go_at_call 28; go_must (refine (HO.out _).mono ?_); rintro e w1 ⟨rfl, hb1⟩; obtain ⟨hc1, hf1, hs1⟩ := bcell hb1; have hz1 := hb1.size; (try simp at hz1); have Z1' : Below w.heap.size w w1 := Below.trans (b := _) (by repeat first | exact Below.refl _ _ | assumption | (refine Below.alloc ?_ (by first | omega | (simp; done) | (simp; omega)) _) | (refine Below.setCell ?_ (by first | omega | (simp; done) | (simp; omega)) _) | (refine Below.drew ?_) | (refine belowDrewN ?_) | (refine Below.trans ?_ (Below.mono (by assumption) (by first | omega | (simp; done) | (simp; omega))))) (Below.mono hb1 (by first | omega | (simp; done) | (simp; omega))); obtain ⟨LB, hLB⟩ : ∃ LB, w1.heap.size = LB := ⟨_, rfl⟩; have y3' : w.heap.size < LB := (by rw [← hLB]; omega)) | (go_at_call 29; go_must (refine (isMinute_any _ _).mono ?_); rintro e w1 ⟨rfl, hb1⟩; obtain ⟨hc1, hf1, hs1⟩ := bcell hb1; have hz1 := hb1.size; (try simp at hz1); have Z1' : Below w.heap.size w w1 := Below.trans (b := _) (by repeat first | exact Below.refl _ _ | assumption | (refine Below.alloc ?_ (by first | omega | (simp; done) | (simp; omega)) _) | (refine Below.setCell ?_ (by first | omega | (simp; done) | (simp; omega)) _) | (refine Below.drew ?_) | (refine belowDrewN ?_) | (refine Below.trans ?_ (Below.mono (by assumption) (by first | omega | (simp; done) | (simp; omega))))) (Below.mono hb1 (by first | omega | (simp; done) | (simp; omega))); have L1' : Blk w1 LB #[.int .i64 r, .int .i64 e, .int .i64 c] 64 := Blk.below (by repeat first | exact blk_at (by first | rfl | omega | (simp; done) | (simp; omega)) | assumption | refine Blk.alloc ?_ _ | refine Blk.drew ?_ | refine Blk.drewN ?_ _ | (refine Blk.other ?_ _ (by first | omega | (simp; done) | (simp; omega))) | (refine Blk.below ?_ (by assumption))) hb1; have c2' := L1'.cell 0 rfl; have c3' := L1'.cell 1 rfl; have c4' := L1'.cell 2 rfl; have y2' := L1'.lt) | (go_at_call 30; go_must (refine (isShown_any _ _).mono ?_); rintro e w1 ⟨rfl, hb1⟩; obtain ⟨hc1, hf1, hs1⟩ := bcell hb1; have hz1 := hb1.size; (try simp at hz1); have Z1' : Below w.heap.size w w1 := Below.trans (b := _) (by repeat first | exact Below.refl _ _ | assumption | (refine Below.alloc ?_ (by first | omega | (simp; done) | (simp; omega)) _) | (refine Below.setCell ?_ (by first | omega | (simp; done) | (simp; omega)) _) | (refine Below.drew ?_) | (refine belowDrewN ?_) | (refine Below.trans ?_ (Below.mono (by assumption) (by first | omega | (simp; done) | (simp; omega))))) (Below.mono hb1 (by first | omega | (simp; done) | (simp; omega))); have L1' : Blk w1 LB #[.int .i64 r, .int .i64 e, .int .i64 c] 64 := Blk.below (by repeat first | exact blk_at (by first | rfl | omega | (simp; done) | (simp; omega)) | assumption | refine Blk.alloc ?_ _ | refine Blk.drew ?_ | refine Blk.drewN ?_ _ | (refine Blk.other ?_ _ (by first | omega | (simp; done) | (simp; omega))) | (refine Blk.below ?_ (by assumption))) hb1; have c2' := L1'.cell 0 rfl; have c3' := L1'.cell 1 rfl; have c4' := L1'.cell 2 rfl; have y2' := L1'.lt) | (go_at_call 39; go_must (refine (HK.out _ (by first | assumption | exact (by repeat first | exact Below.refl _ _ | assumption | (refine Below.alloc ?_ (by first | omega | (simp; done) | (simp; omega)) _) | (refine Below.setCell ?_ (by first | omega | (simp; done) | (simp; omega)) _) | (refine Below.drew ?_) | (refine belowDrewN ?_) | (refine Below.trans ?_ (Below.mono (by assumption) (by first | omega | (simp; done) | (simp; omega))))))).mono ?_); rintro e w1 ⟨rfl, hb1⟩; obtain ⟨hc1, hf1, hs1⟩ := bcell hb1; have hz1 := hb1.size; (try simp at hz1); have Z1' : Below w.heap.size w w1 := Below.trans (b := _) (by repeat first | exact Below.refl _ _ | assumption | (refine Below.alloc ?_ (by first | omega | (simp; done) | (simp; omega)) _) | (refine Below.setCell ?_ (by first | omega | (simp; done) | (simp; omega)) _) | (refine Below.drew ?_) | (refine belowDrewN ?_) | (refine Below.trans ?_ (Below.mono (by assumption) (by first | omega | (simp; done) | (simp; omega))))) (Below.mono hb1 (by first | omega | (simp; done) | (simp; omega))); have L1' : Blk w1 LB #[.int .i64 r, .int .i64 e, .int .i64 c] 64 := Blk.below (by repeat first | exact blk_at (by first | rfl | omega | (simp; done) | (simp; omega)) | assumption | refine Blk.alloc ?_ _ | refine Blk.drew ?_ | refine Blk.drewN ?_ _ | (refine Blk.other ?_ _ (by first | omega | (simp; done) | (simp; omega))) | (refine Blk.below ?_ (by assumption))) hb1; have c2' := L1'.cell 0 rfl; have c3' := L1'.cell 1 rfl; have c4' := L1'.cell 2 rfl; have y2' := L1'.lt))
  obtain ⟨MB, hMB⟩ : ∃ MB, w1.heap.size = MB := ⟨_, rfl⟩;refine calls_name ?_;intro W hW;have M0 : IMap dialE 3 W MB 0 (fun _ => none) := by rw [hW, ← hMB]; exact IMap.made dialE w1
  have L0 : Blk W LB #[.int .i64 r, .int .i64 e, .int .i64 c] 64 := by rw [hW]; exact (by repeat first | exact blk_at (by first | rfl | omega | (simp; done) | (simp; omega)) | assumption | refine Blk.alloc ?_ _ | refine Blk.drew ?_ | refine Blk.drewN ?_ _ | (refine Blk.other ?_ _ (by first | omega | (simp; done) | (simp; omega))) | (refine Blk.below ?_ (by assumption)))
  have Z0 : Below w.heap.size w W := by rw [hW]; exact (by repeat first | exact Below.refl _ _ | assumption | (refine Below.alloc ?_ (by first | omega | (simp; done) | (simp; omega)) _) | (refine Below.setCell ?_ (by first | omega | (simp; done) | (simp; omega)) _) | (refine Below.drew ?_) | (refine belowDrewN ?_) | (refine Below.trans ?_ (Below.mono (by assumption) (by first | omega | (simp; done) | (simp; omega)))))
  have hLM : LB < MB := by rw [← hMB]; exact y2'
  have hwM : w.heap.size ≤ MB := by have := Z1'.size; omega
  rw [hMB]
  clear hW c2' c3' c4'
  refine (HS.out W).mono ?_
  rintro e w1 ⟨rfl, hb1⟩; obtain ⟨hc1, hf1, hs1⟩ := bcell hb1; have hz1 := hb1.size; (try simp at hz1)
  have M1 := M0.below hb1; have L1 := L0.below hb1;have Z1 : Below w.heap.size w w1 := Z0.trans (hb1.mono Z0.size);have HM1 := Lib.hid M1
  clear hc1 hf1 hs1 M0 L0 Z0 M1
  go_wp2_with (refine wpList_imap_insert dialE _ rfl _ _ _ 78 rfl 3 Try.underlying78 Try.underlying3 MB 0 _ rfl HM1.out (by unfold maxLen; omega) ⟨s0, k0⟩ 0 rfl rfl hd (by decide) ?_; intro w3 hm3 hk3)
  have A0 : FewI w LB r e c (Pu.startR ⟨s0, k0⟩) 360 MB (upd (fun _ => none) ⟨s0, k0⟩ (some 0)) w3 :=
    ⟨Z1.trans (hk3.to_below Z1.size (fun b hb => by omega)), hk3.blk L1 (by omega), hm3.mono (by unfold NB; omega), by omega, by omega, Pu.MinOf.start _, fun d x hx => by rw [hx.1, hx.2]; exact ⟨hso, by omega⟩⟩
  have R0 : FewOutRel w LB r e c f ⟨s0, k0⟩ fs (.int .i64 0) (.map (some MB)) (.int .i64 f) w3 := ⟨0, MB, _, f, Nat.zero_le _, rfl, rfl, rfl, by simpa [Pu.seenR, Pu.lastS] using A0, Int.le_refl _, by simp [Pu.lastS], .inl (by simp [Pu.lastS])⟩
  clear A0 hm3 hk3 Z1 L1 Z1' L1' y2' y3' hLB hMB hz1 hb1 HM1
  go_loopw [48, 12, 13] (fun i m tt wr => FewOutRel w LB r e c f ⟨s0, k0⟩ fs i m tt wr) (fun i _ _ _ => fs.length - (intOf i).toNat)
  case atStart => exact R0
  case round =>
    obtain ⟨k, b, g, v, hk, rfl, rfl, rfl, A, v0, v1, v2⟩ := hrel
    clear R0
    by_cases hlt : k < fs.length
    · obtain ⟨bs, os, rfl, hbl, hc0, hc1⟩ := (HF.out.below A.low).2 k hlt;have hge := Pu.lastS_ge k HSK.out;have hge2 := hge.2 hlt;have hsn : Pu.seenR ⟨r, e, c⟩ (Pu.startR ⟨s0, k0⟩) f (fs.take (k + 1)) = Pu.filtR fs[k].2 (Pu.stepsR ⟨r, e, c⟩ (Pu.lastS f (fs.take k)) (Pu.seenR ⟨r, e, c⟩ (Pu.startR ⟨s0, k0⟩) f (fs.take k)) (fs[k].1 - Pu.lastS f (fs.take k)).toNat) := by
        rw [List.take_succ_eq_append_getElem hlt, Pu.seenR_snoc]
      have hls : Pu.lastS f (fs.take (k + 1)) = fs[k].1 := by rw [List.take_succ_eq_append_getElem hlt, Pu.lastS_snoc]
      have HSN := Lib.hid hsn; have HLS := Lib.hid hls;have hge1 := hge.1
      clear hsn hls hge
      generalize fs[k] = x at *
      obtain ⟨At, sh2⟩ := x
      generalize Pu.seenR ⟨r, e, c⟩ (Pu.startR ⟨s0, k0⟩) f (fs.take k) = R at *
      generalize Pu.lastS f (fs.take k) = last at *
      dsimp only at hc0 hc1 hge2 HSN HLS;have hlw : LB < wr.heap.size := A.ln.lt;have hbw : b < wr.heap.size := A.mp.lt;have HA := Lib.hid A; have HV2 := Lib.hid v2
      clear A v2
      go_wp2_with fail
      refine wp_name ?_;intro W hW;obtain ⟨X, hX⟩ : ∃ X, wr.heap.size = X := ⟨_, rfl⟩;have BX : Blk W X #[.int .i64 At, .int .i64 sh2] 53 := by rw [hW, ← hX]; exact (by repeat first | exact blk_at (by first | rfl | omega | (simp; done) | (simp; omega)) | assumption | refine Blk.alloc ?_ _ | refine Blk.drew ?_ | refine Blk.drewN ?_ _ | (refine Blk.other ?_ _ (by first | omega | (simp; done) | (simp; omega))) | (refine Blk.below ?_ (by assumption)))
      have AW : FewI w LB r e c R (360 + 2 * (last - f)) b g W := HA.out.below (by rw [hW]; exact (by repeat first | exact Below.refl _ _ | assumption | (refine Below.alloc ?_ (by first | omega | (simp; done) | (simp; omega)) _) | (refine Below.setCell ?_ (by first | omega | (simp; done) | (simp; omega)) _) | (refine Below.drew ?_) | (refine belowDrewN ?_) | (refine Below.trans ?_ (Below.mono (by assumption) (by first | omega | (simp; done) | (simp; omega))))));have I0 : FewInRel w LB X r e c f R (360 + 2 * (last - f)) last At sh2 (.map (some b)) (.int .i64 v) W := ⟨b, g, v, rfl, rfl, by
        rcases HV2.out with h | h
        · exact .inl ⟨0, by simp [h], by simpa [Pu.stepsR] using AW⟩
        · exact .inr ⟨h, AW⟩, v0, by omega, by omega, BX⟩
      have hok := AW.ok;have HOK := Lib.hid hok;rw [hX]
      clear hW hc0 hc1 AW BX HA HV2 hok hbw
      go_loopw [12, 13] (fun m tt wr => FewInRel w LB X r e c f R (360 + 2 * (last - f)) last At sh2 m tt wr) (fun _ tt _ => (At - intOf tt).toNat)
      case atStart => exact I0
      case round =>
        obtain ⟨b, g, v, rfl, rfl, A, v0, v1, hXb, BX⟩ := hrel
        clear I0
        obtain ⟨mp, lb, bl, ln, low⟩ := A.mp;have HM := Lib.hid mp; have HA := Lib.hid A;have x0 := BX.cell 0 rfl; have x1 := BX.cell 1 rfl;have l0 := ln.cell 0 rfl; have l1 := ln.cell 1 rfl; have l2 := ln.cell 2 rfl;have hXl := BX.lt
        clear mp A
        obtain ⟨sz, hsz1, hsz2, hrl⟩ := HM.out.len Try.underlying78;have HS2 := Lib.hid hsz2
        clear hsz1 hsz2
        by_cases hv : v < At
        · by_cases hs0 : 0 < sz
          · obtain ⟨d1, c1, hd1⟩ := HS2.out.1 hs0;obtain ⟨n, hn, A⟩ : ∃ n : Nat, v = last + n ∧ FewI w LB r e c (Pu.stepsR ⟨r, e, c⟩ last R n) (360 + 2 * (last - f) + 2 * n) b g wr := by
              rcases HA.out with h | ⟨h, _⟩
              · exact h
              · rw [h] at hd1; cases hd1
            have HN := Lib.hid hn; have HAA := Lib.hid A
            clear hd1 hn A
            go_wp2_with fail
            refine (after_any r e c (v + 1) b NB g wr HL.out (by omega) HM.out (by rw [nb_eq]; omega) (HAA.out.vals (by have := HN.out; omega))).mono ?_
            rintro en w4 ⟨b4, g4, rfl, hb4, hbe4, hm4, hmin4⟩
            have hn' := HN.out;have A4 := HAA.out.step hbe4 (by omega) (by omega) hm4 hmin4 hb4;rw [show v + 1 = last + n + 1 by omega] at A4
            clear hn'
            have B4 := BX.below hbe4
            clear hbe4 hm4 hmin4 hrl x0 x1 l0 l1 l2
            go_wp2_with fail
            have hn' := HN.out;refine ⟨⟨b4, g4, v + 1, rfl, rfl, .inl ⟨n + 1, by omega, ?_⟩, by omega, by omega, by omega, B4⟩, by simp [intOf]; omega⟩;exact A4.mono (by omega)
          · have hgn : ∀ d, g d = none := fun d => by
              cases hgd : g d with
              | none => rfl
              | some c' => exact absurd (HS2.out.2 ⟨d, c', hgd⟩) hs0
            have A := HA.out.done (At := At) (.inr hgn) v1 (by omega) HOK.out (by omega);have HAA := Lib.hid A; have HG := Lib.hid hgn
            clear hgn A
            go_wp2_with fail
            refine (deleteFunc_any b NB X sh2 g wr HM.out x1 hXl hXb).mono ?_
            rintro en w4 ⟨rfl, hk4, hm4⟩
            have A4 := HAA.out.filt hk4 hm4
            clear hk4 hm4 hrl x0 x1 l0 l1 l2
            go_wp2_with fail
            refine ⟨⟨k + 1, b, _, v, by omega, by go_num, rfl, rfl, by rw [HSN.out, HLS.out]; exact A4.mono (by omega), v0, by rw [HLS.out]; omega, .inr fun d => by simp [Pu.keepF, HG.out]⟩, by simp [intOf]; omega⟩
        · have A := HA.out.done (At := At) (.inl (by omega)) v1 (by omega) HOK.out (by omega);have HAA := Lib.hid A
          clear A
          go_wp2_with fail
          refine (deleteFunc_any b NB X sh2 g wr HM.out x1 hXl hXb).mono ?_
          rintro en w4 ⟨rfl, hk4, hm4⟩
          have A4 := HAA.out.filt hk4 hm4
          clear hk4 hm4 hrl x0 x1 l0 l1 l2
          go_wp2_with fail
          refine ⟨⟨k + 1, b, _, v, by omega, by go_num, rfl, rfl, by rw [HSN.out, HLS.out]; exact A4.mono (by omega), v0, by rw [HLS.out]; omega, .inl (by rw [HLS.out]; omega)⟩, by simp [intOf]; omega⟩
    · have hk' : fs.take k = fs := List.take_of_length_le (by omega);rw [hk'] at A;have HA := Lib.hid A;obtain ⟨sz, hsz1, hsz2, hrl⟩ := A.mp.len Try.underlying78;have HS2 := Lib.hid hsz2
      clear hsz1 hsz2 A hk' v2
      by_cases hs0 : 0 < sz
      · obtain ⟨d1, c1, hd1⟩ := HS2.out.1 hs0
        go_wp2_with fail
        refine (values_any b wr).mono ?_
        rintro en w4 ⟨rfl, hw4⟩
        have hb4 : Below wr.heap.size wr w4 := by rw [hw4]; exact (by repeat first | exact Below.refl _ _ | assumption | (refine Below.alloc ?_ (by first | omega | (simp; done) | (simp; omega)) _) | (refine Below.setCell ?_ (by first | omega | (simp; done) | (simp; omega)) _) | (refine Below.drew ?_) | (refine belowDrewN ?_) | (refine Below.trans ?_ (Below.mono (by assumption) (by first | omega | (simp; done) | (simp; omega)))))
        have A4 := HA.out.below hb4;have B4 : Blk w4 wr.heap.size #[.map (some b)] 78 := by rw [hw4]; exact (by repeat first | exact blk_at (by first | rfl | omega | (simp; done) | (simp; omega)) | assumption | refine Blk.alloc ?_ _ | refine Blk.drew ?_ | refine Blk.drewN ?_ _ | (refine Blk.other ?_ _ (by first | omega | (simp; done) | (simp; omega))) | (refine Blk.below ?_ (by assumption)))
        have hbl := HA.out.mp.lt;have hz4 : wr.heap.size < w4.heap.size := B4.lt;have hit := values1_iter b NB wr.heap.size g w4 A4.mp B4 (by omega);have hC := collect_any 54 #[.pointer (some ⟨wr.heap.size, 0, none⟩)] (ValsPart NB g) (ValsAll NB g) (fun x => x = wr.heap.size) (fun x => x = b) NB w4 (by rw [nb_eq]; omega) (fun xs h => h.1) (fun xs h => h.1.1) (by intro args w; rfl) (fun x h => by omega) (fun x h => by omega) hit;have HC := Lib.hid hC; have HA4 := Lib.hid A4
        clear hw4 hit hC A4 hrl B4
        go_wp2_with fail
        refine HC.out.mono ?_
        rintro en w5 ⟨a5, cp5, xs, hall, rfl, hle5, hi5, hk5⟩
        have hk5' : Below w.heap.size w w5 := HA4.out.low.trans (hk5.to_below HA4.out.low.size (fun x hx => by have hx' : x = wr.heap.size := hx; have := HA.out.low.size; omega))
        cases xs with
        | nil => have := hall.2 d1 c1 hd1; cases this
        | cons x tl =>
          have HI5 := Lib.hid hi5; have HALL := Lib.hid hall
          clear hall hi5 hk5 hle5 hd1
          go_wp2_with fail
          refine (min_any a5 cp5 x tl w5 HI5.out).mono ?_
          rintro e w1 ⟨rfl, hb1⟩; obtain ⟨hc1, hf1, hs1⟩ := bcell hb1; have hz1 := hb1.size; (try simp at hz1)
          go_wp2_with fail
          go_ret2
          refine ⟨minL tl x, 0, rfl, hk5'.trans (hb1.mono hk5'.size), ?_⟩;unfold Pu.FewOut;rw [if_neg (by simpa using H1.out), if_neg (by simp [hm]), if_neg (by simp [hs]), if_neg (by simpa using HKK.out), HD.out];exact few_min HA.out.mn HALL.out
      · go_wp2_with fail
        go_ret2
        refine ⟨0, 7, rfl, HA.out.low, ?_⟩;unfold Pu.FewOut;rw [if_neg (by simpa using H1.out), if_neg (by simp [hm]), if_neg (by simp [hs]), if_neg (by simpa using HKK.out), HD.out];refine .inr ⟨rfl, rfl, HA.out.mn.none fun d => ?_⟩
        cases hgd : g d with
        | none => rfl
        | some c' => exact absurd (HS2.out.2 ⟨d, c', hgd⟩) hs0
end Go.Proofs.Ytjmkjlhnipnkcaa
