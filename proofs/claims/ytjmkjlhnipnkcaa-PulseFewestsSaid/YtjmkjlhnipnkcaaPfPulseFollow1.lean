/- The iterator of pulse.line.follow yields the dial behind each minute. -/
import Derived.Test.YtjmkjlhnipnkcaaPfPulseFollow
set_option linter.unusedSimpArgs false
set_option linter.unusedVariables false
namespace Go.Proofs.Ytjmkjlhnipnkcaa
open Go.RowKit Go.Shelf
theorem FBox.kept {R O : Nat → Prop} {w w' : World} {B : Nat} {fs : List (Int × Int)} (h : FBox R w B fs) (hk : Keeps O w w') (hB : ¬ O B) (hR : ∀ b, R b → ¬ O b) : FBox R w' B fs := by
  obtain ⟨a, cp, h1, h2, h3, h4⟩ := h;refine ⟨a, cp, h1, h2, hk.blk h3 hB, h4.1, fun i hi => ?_⟩;obtain ⟨b, o, e, hlt, hc, hd⟩ := h4.2 i hi;have hn : ¬ O b := hR b (h2 (by rintro rfl; simp at hi) _ e);have hh := hk.same b hlt hn;exact ⟨b, o, e, Nat.lt_of_lt_of_le hlt hk.size, by rw [World.cell?_of_block (w := w) hh]; exact hc, by rw [World.cell?_of_block (w := w) hh]; exact hd⟩
def FolRel (R O : Nat → Prop) (J : Nat → (Nat → Prop) → World → Prop) (b B : Nat) (r e c f U s k : Int) (fs : List (Int × Int)) (i : Value) (wr : World) : Prop :=
  ∃ (n : Nat) (s' k' : Int) (fs' : List (Int × Int)), Pu.folN ⟨r, e, c⟩ f fs ⟨s, k⟩ n = (⟨s', k'⟩, fs') ∧ (n : Int) ≤ U - f ∧ i = .int .i64 (f + n + 1) ∧ J n O wr ∧ B < wr.heap.size ∧
    Blk wr b #[.int .i64 r, .int .i64 e, .int .i64 c] 64 ∧
    Blk wr (b + 1) #[.int .i64 s', .int .i64 k'] 72 ∧
    Blk wr (b + 4) #[.int .i64 U] 3 ∧ FBox R wr B fs'
set_option maxHeartbeats 1000000 in
theorem follow1_iter (R : Nat → Prop) (r e c f U s k : Int) (fs : List (Int × Int)) (w : World) (b : Nat) (h : (Pu.Ln.mk r e c).ok) (ha : FolAt R w b r e c f U s k fs) (hRb : ∀ x, R x → x < b)
    (hk : ∀ x ∈ fs, x.2 = 1 ∨ x.2 = 2) (f0 : 0 ≤ f) (f1 : f ≤ U) (u1 : U ≤ 1000000) (h0 : 0 ≤ s) (h1 : s < 720) (h2 : 0 ≤ k) (h3 : k ≤ 1000000) :
    Iterates Try.prog 49 (folCap b) (Pu.fol ⟨r, e, c⟩ f U fs ⟨s, k⟩) folEnc (fun x => b ≤ x ∧ x < b + 5) R w := by
  intro L J W hWb hJ hY hJ0;obtain ⟨B0, B1, B2, HF, B4⟩ := ha;have hI := Lib.hid (fun W s k t (m : Nat) (hd : Pu.Dl.ok 500000000 ⟨s, k⟩) (ht : 0 ≤ t) (hm : m ≤ 2) => impulse_any r e c s k t m W h ht hm hd.1 hd.2.1 hd.2.2.1 hd.2.2.2);have HO := Lib.hid (Pu.folN_ok (l := ⟨r, e, c⟩) (f := f) (fs := fs) (d := ⟨s, k⟩) (B := k) ⟨h0, h1, h2, Int.le_refl _⟩ h2);have hY' := Lib.hid hY; clear hY;have hbl : b + 4 < w.heap.size := B4.lt;have hbW : b + 4 < W.heap.size := Nat.lt_of_lt_of_le hbl hWb.size
  replace B0 := B0.below hWb; replace B1 := B1.below hWb; replace B2 := B2.below hWb; replace B4 := B4.below hWb
  have HF' : FBox R W (b + 3) fs := HF.kept (O := fun x => w.heap.size ≤ x) ⟨hWb.mono (Nat.zero_le _), fun i hi ho => hWb.block i hi⟩ (by omega) (fun x hx => by have := hRb x hx; omega)
  clear HF
  obtain ⟨a, cp, q1, q2, q3, q4⟩ := HF';have l2 : b + 2 < W.heap.size := B2.lt;have c20 := B2.cell 0 rfl;have c30 := q3.cell 0 rfl;have c40 := B4.cell 0 rfl;have QQ := Lib.hid q4; clear q4;unfold folCap
  (refine callsIn_of_wp Try.func49 rfl trivial ?_ rfl; simp only [Try.ntmps49, List.size_toArray, List.length_cons, List.length_nil, Nat.reduceAdd, Nat.reduceSub, Array.replicate_succ, Array.replicate_zero, List.push_toArray, List.append_toArray, List.nil_append, List.cons_append])
  gi_wp2_with fail
  refine wpIn_name ?_;intro W1 hW1;have b0 : Blk W1 b #[.int .i64 r, .int .i64 e, .int .i64 c] 64 := by rw [hW1]; exact (by repeat first | exact blk_at (by first | rfl | omega | (simp; done) | (simp; omega)) | assumption | refine Blk.alloc ?_ _ | refine Blk.drew ?_ | refine Blk.drewN ?_ _ | (refine Blk.other ?_ _ (by first | omega | (simp; done) | (simp; omega))) | (refine Blk.below ?_ (by assumption)))
  have b1 : Blk W1 (b + 1) #[.int .i64 s, .int .i64 k] 72 := by rw [hW1]; exact (by repeat first | exact blk_at (by first | rfl | omega | (simp; done) | (simp; omega)) | assumption | refine Blk.alloc ?_ _ | refine Blk.drew ?_ | refine Blk.drewN ?_ _ | (refine Blk.other ?_ _ (by first | omega | (simp; done) | (simp; omega))) | (refine Blk.below ?_ (by assumption)))
  have b4 : Blk W1 (b + 4) #[.int .i64 U] 3 := by rw [hW1]; exact (by repeat first | exact blk_at (by first | rfl | omega | (simp; done) | (simp; omega)) | assumption | refine Blk.alloc ?_ _ | refine Blk.drew ?_ | refine Blk.drewN ?_ _ | (refine Blk.other ?_ _ (by first | omega | (simp; done) | (simp; omega))) | (refine Blk.below ?_ (by assumption)))
  have b5 : Blk W1 W.heap.size #[.slice a fs.length cp] 91 := by rw [hW1]; exact (by repeat first | exact blk_at (by first | rfl | omega | (simp; done) | (simp; omega)) | assumption | refine Blk.alloc ?_ _ | refine Blk.drew ?_ | refine Blk.drewN ?_ _ | (refine Blk.other ?_ _ (by first | omega | (simp; done) | (simp; omega))) | (refine Blk.below ?_ (by assumption)))
  have hbe : Below W.heap.size W W1 := by rw [hW1]; exact (by repeat first | exact Below.refl _ _ | assumption | (refine Below.alloc ?_ (by first | omega | (simp; done) | (simp; omega)) _) | (refine Below.setCell ?_ (by first | omega | (simp; done) | (simp; omega)) _) | (refine Below.drew ?_) | (refine belowDrewN ?_) | (refine Below.trans ?_ (Below.mono (by assumption) (by first | omega | (simp; done) | (simp; omega)))))
  have hz1 : W.heap.size < W1.heap.size := by rw [hW1]; simp
  clear hW1
  have HB : FBox R W1 W.heap.size fs := ⟨a, cp, q1, q2, b5, QQ.out.below hbe⟩;obtain ⟨O1, hO1⟩ : ∃ O1 : Nat → Prop, O1 = fun x => (b ≤ x ∧ x < b + 5) ∨ x = W.heap.size := ⟨_, rfl⟩
  have j1 : J 0 O1 W1 := hJ _ _ _ _ _ hJ0 (Keeps.below hbe) (fun x hx => by rw [hO1]; exact .inl hx) (fun x hx => by rw [hO1] at hx; omega)
  gi_loopw [8] (fun i wr => FolRel R O1 J b W.heap.size r e c f U s k fs i wr) (fun i _ => (U + 1 - intOf i).toNat)
  case atStart => exact ⟨0, s, k, fs, rfl, by omega, by go_num, j1, hz1, b0, b1, b4, HB⟩
  clear b0 b1 b4 HB j1 b5 hbe B0 B1 B2 B4 QQ q3 c20 c30 c40 hJ0
  case round =>
    obtain ⟨n, s', k', fs', he, hn, rfl, jn, hz, b0, b1, b4, HB⟩ := hrel;have HJ := Lib.hid jn; clear jn;have ho := HO.out n;rw [he] at ho
    by_cases hlt : f + n + 1 ≤ U
    · have c00 := b0.cell 0 rfl; have c01 := b0.cell 1 rfl; have c02 := b0.cell 2 rfl;have c10 := b1.cell 0 rfl; have c11 := b1.cell 1 rfl;have c40 := b4.cell 0 rfl
      gi_wp2_with fail
      refine wpIn_wide.2 ?_;have hmem : ∀ x ∈ fs', x.2 = 1 ∨ x.2 = 2 := fun x hx => hk x (Pu.folN_mem (l := ⟨r, e, c⟩) (f := f) (d := ⟨s, k⟩) n (by rw [he]; exact hx))
      have hM := moves_any R W.heap.size _ (f + n + 1) wr.drew HB hmem;have hm2 := Pu.headMoves_le fs' (f + n + 1);have hs := Pu.folN.eq_2 ⟨r, e, c⟩ f fs ⟨s, k⟩ n;rw [he] at hs;dsimp only at hs;unfold MovesPost at hM
      generalize Pu.rest fs' (f + n + 1) = fs'' at hs hM
      generalize Pu.headMoves fs' (f + n + 1) = m at hs hM hm2
      have hd : Pu.Dl.ok 500000000 ⟨s', k'⟩ := ⟨ho.1, ho.2.1, ho.2.2.1, by have := ho.2.2.2; dsimp only at *; omega⟩;have hC := fun W => hI.out W s' k' (f + n + 1) m hd (by omega) hm2
      generalize Pu.imp ⟨r, e, c⟩ (f + n + 1) m ⟨s', k'⟩ = D at hs hC
      obtain ⟨s'', k''⟩ := D;dsimp only at hC;have HM := Lib.hid hM; have HC := Lib.hid hC; have HS := Lib.hid hs;have n0 : b ≠ W.heap.size := by omega
      have n1 : b + 1 ≠ W.heap.size := by omega
      have n4 : b + 4 ≠ W.heap.size := by omega
      clear hmem ho hM hC he hs hd hm2 hI
      go_region_with
        (first | (go_at_call 51; refine HM.out.mono ?_; rintro e w1 ⟨rfl, hk1, hB1⟩; have b0' := hk1.blk (Blk.drew b0) n0; have b1' := hk1.blk (Blk.drew b1) n1; have d00 := b0'.cell 0 rfl; have d01 := b0'.cell 1 rfl; have d02 := b0'.cell 2 rfl; have d10 := b1'.cell 0 rfl; have d11 := b1'.cell 1 rfl) | (go_at_call 50; refine (HC.out _).mono ?_; rintro e w2 ⟨rfl, hb2⟩; have b1'' := b1'.below hb2; have d10 := b1''.cell 0 rfl; have d11 := b1''.cell 1 rfl; have g1 := b1''.free))
      all_goals (
        obtain ⟨w3, hw3⟩ : ∃ w3, w3 = (w2.setCell ⟨b + 1, 0, none⟩ (.int .i64 s'')).setCell ⟨b + 1, 1, none⟩ (.int .i64 k'') := ⟨_, rfl⟩;rw [← hw3];have kp1 : Keeps (fun x => x = b + 1) w1 w3 := by rw [hw3]; exact ((Keeps.below (O := fun x => x = b + 1) hb2).trans (Keeps.setCell (O := fun x => x = b + 1) w2 ⟨b + 1, 0, none⟩ _ rfl)).trans (Keeps.setCell (O := fun x => x = b + 1) _ ⟨b + 1, 1, none⟩ _ rfl)
        have kp : Keeps (fun x => x = W.heap.size ∨ x = b + 1) wr w3 := ((Keeps.drew _ wr).trans (hk1.mono fun _ _ h => .inl h)).trans (kp1.mono fun _ _ h => .inr h);have j3 : J n O1 w3 := hJ n O1 O1 wr w3 HJ.out (kp.mono fun x _ hx => by rw [hO1]; dsimp only; omega) (fun _ h => h) (fun _ h => .inl h);have e0 := kp.blk b0 (by omega);have e4 := kp.blk b4 (by omega);have e1 : Blk w3 (b + 1) #[.int .i64 s'', .int .i64 k''] 72 := by rw [hw3]; exact (b1''.set 0 _).set 1 _
        have HB3 : FBox R w3 W.heap.size fs'' := hB1.kept kp1 (by omega) (fun x hx => by have := hRb x hx; omega);have hz3 : W.heap.size < w3.heap.size := Nat.lt_of_lt_of_le hz kp.size
        clear hw3 kp1 kp hb2 hk1 b0' b1' d00 d01 d02 d10 d11 b1'' g1 hB1 c00 c01 c02 c10 c11 c40 b0 b1 b4 HB HM HC
        have hlen : n < (Pu.fol ⟨r, e, c⟩ f U fs ⟨s, k⟩).length := by simp [Pu.fol]; omega
        obtain ⟨fn, tmps, asg, bdy, hy, hR⟩ := hY'.out n O1 w3 hlen (fun x hx => by rw [hO1]; exact .inl hx) j3;rw [show folEnc ((Pu.fol ⟨r, e, c⟩ f U fs ⟨s, k⟩)[n]'hlen) = #[.int .i64 (f + n + 1), .agg #[.int .i64 s'', .int .i64 k'']] by simp [Pu.fol, folEnc, HS.out]] at hy;have hR := Lib.hid hR;have d10 := e1.cell 0 rfl; have d11 := e1.cell 1 rfl
        gi_wp2_with fail
        refine ⟨rfl, hR.out.mono ?_⟩
        rintro e W4 ⟨rfl, hj4, hk4⟩
        have hok : ∀ x, (b ≤ x ∧ x < b + 5) ∨ x = W.heap.size → ¬ (¬ O1 x ∧ ¬ R x) := fun x hx hh => hh.1 (by rw [hO1]; exact hx)
        have o0 := hk4.blk e0 (hok _ (by omega));have o1 := hk4.blk e1 (hok _ (by omega));have o4 := hk4.blk e4 (hok _ (by omega));have HB4 : FBox R W4 W.heap.size fs'' := HB3.kept hk4 (hok _ (by omega)) (fun x hx hh => hh.2 hx);have hz4 : W.heap.size < W4.heap.size := Nat.lt_of_lt_of_le hz3 hk4.size
        clear hR hy e0 e1 e4 HB3 d10 d11 hk4 j3 hok
        gi_wp2_with fail
        exact ⟨⟨n + 1, s'', k'', fs'', HS.out, by omega, by go_num, hj4, hz4, o0, o1, o4, HB4⟩, by simp [intOf]; omega⟩)
    · have c40 := b4.cell 0 rfl
      gi_wp2_with fail
      go_end0
      have hn' : n = (U - f).toNat := by omega
      refine ⟨⟨_, rfl⟩, O1, by intros; rw [hO1]; dsimp only; omega, ?_⟩;have := HJ.out;rw [hn'] at this
      simpa [Pu.fol] using this
end Go.Proofs.Ytjmkjlhnipnkcaa
