/- The walk of pulse.Back, where the line, the minute and the faults are in order. -/
import Derived.Test.YtpjlihkpnhamlaaPulseBack0
set_option linter.unusedSimpArgs false
set_option linter.unusedVariables false
namespace Go.Proofs.Ytpjlihkpnhamlaa
open Go.RowKit Go.Shelf
attribute [local go_sem] Oper.semAt_some

set_option maxHeartbeats 2000000 in
theorem pulseBack_ok (r e c f : Int) (a : Option Addr) (cp : Nat) (fs : List (Int × Int)) (w : World) (hr : (Lit.int .i64 r).wf = true) (he : (Lit.int .i64 e).wf = true) (hc : (Lit.int .i64 c).wf = true) (hf : IsPairs w a fs) (hcp : fs.length ≤ cp)
   (h1 : Pu.lineErr r e c = 0) (hm : btw 0 100000 f = true) (hk : Pu.faultsErr ⟨r, e, c⟩ f (f + 5000) fs = 0) :
    Calls Try.prog 21 #[.agg #[.int .i64 r, .int .i64 e, .int .i64 c], .int .i64 f, .slice a fs.length cp] w
      (Ret w (.tuple #[.int .i64 (Pu.backVal ⟨r, e, c⟩ f fs).1, .int .i64 (Pu.backVal ⟨r, e, c⟩ f fs).2])) := by
  have HO := Lib.hid (fun W => open_any r e c W hr he hc)
  have hok := Pu.ok_of_err h1
  rw [h1] at HO
  have hm' := btw_iff.1 hm
  have HK := Lib.hid (fun W (hW : Below w.heap.size w W) => lineCheck_any r e c f (f + 5000) a cp fs W hok (hf.below hW) (by omega) (by omega) (by omega))
  rw [hk] at HK
  have HF := Lib.hid hf
  have hz := Pu.faults_zero hk
  have hl := Pu.lastF_btw hz.2 (by omega)
  have hE := Pu.ok_e hok
  dsimp only at hE
  obtain ⟨last, hlast⟩ : ∃ last, Pu.lastF f fs = last := ⟨_, rfl⟩
  obtain ⟨d0, hd0⟩ : ∃ d0, Pu.start ⟨r, e, c⟩ (f % 720) f = d0 := ⟨_, rfl⟩
  have hv : Pu.backVal ⟨r, e, c⟩ f fs = if last + 3 * e < Pu.backAt ⟨r, e, c⟩ f fs d0 last (last + 3 * e - f).toNat then (0, 7) else (Pu.backAt ⟨r, e, c⟩ f fs d0 last (last + 3 * e - f).toNat, 0) := by
    simp [Pu.backVal, h1, hm, hk, hlast, hd0]
  rw [hlast] at hl
  clear h1 hf
  have HV := Lib.hid hv
  clear hv
  have key : (0 < fs.length ∧ ∃ b o, a = some ⟨b, o, none⟩ ∧ b < w.heap.size ∧ w.cell? ⟨b, o + (fs.length - 1) * 2, none⟩ = some (.int .i64 last) ∧ ((fs.length : Int) - 1).toNat = fs.length - 1) ∨ (fs.length = 0 ∧ last = f) := by
    by_cases hn : 0 < fs.length
    · obtain ⟨b, o, q1, q2, q3, _⟩ := HF.out.2 (fs.length - 1) (by omega)
      rw [← Pu.lastF_get (f := f) hn, hlast] at q3
      exact .inl ⟨hn, b, o, q1, q2, q3, by omega⟩
    · have : fs = [] := by cases fs <;> simp_all
      refine .inr ⟨by omega, ?_⟩
      rw [← hlast, this]; rfl
  have hR : fs ≠ [] → ∀ x, a = some x → x.block < w.heap.size := by
    intro hne x hx
    obtain ⟨b, o, q1, q2, _⟩ := HF.out.2 0 (by cases fs <;> simp_all)
    rw [q1] at hx; cases hx; exact q2
  have hlen20 := hz.1
  have HD0 := Lib.hid hd0; have HLA := Lib.hid hlast; clear hd0 hlast
  rcases key with ⟨hn, b, o, rfl, q2, q3, hli⟩ | ⟨hn, hlf⟩
  case' inl =>
    (refine (callsIn_wide (n := 0)).1 (callsIn_of_wp_marks Try.func21 rfl trivial (wpIn_wide.2 ?_)); simp only [Try.ntmps21, List.size_toArray, List.length_cons, List.length_nil, Nat.reduceAdd, Nat.reduceSub, Array.replicate_succ, Array.replicate_zero, List.push_toArray, List.append_toArray, List.nil_append, List.cons_append])
    go_wp2_with (first | (go_at_call 35; refine (HO.out _).mono ?_; rintro e w1 ⟨rfl, hb1⟩; obtain ⟨hc1, hf1, hs1⟩ := bcell hb1; have hz1 := hb1.size; (try simp at hz1); have B1' : Blk w1 (w.heap.size + 1) #[.int .i64 0] 3 := Blk.below (by repeat first | exact blk_at (by first | rfl | omega | (simp; done) | (simp; omega)) | assumption | refine Blk.alloc ?_ _ | refine Blk.drew ?_ | refine Blk.drewN ?_ _ | (refine Blk.other ?_ _ (by first | omega | (simp; done) | (simp; omega))) | (refine Blk.below ?_ (by assumption))) hb1; have c1' := B1'.cell 0 rfl; have y1' := B1'.lt; have g1' := B1'.free; have Z1' : Below w.heap.size w w1 := Below.trans (b := _) (by repeat first | exact Below.refl _ _ | assumption | (refine Below.alloc ?_ (by first | omega | (simp; done) | (simp; omega)) _) | (refine Below.setCell ?_ (by first | omega | (simp; done) | (simp; omega)) _) | (refine Below.drew ?_) | (refine belowDrewN ?_) | (refine Below.trans ?_ (Below.mono (by assumption) (by first | omega | (simp; done) | (simp; omega))))) (Below.mono hb1 (by first | omega | (simp; done) | (simp; omega))); obtain ⟨LB, hLB⟩ : ∃ LB, w1.heap.size = LB := ⟨_, rfl⟩; have y3' : w.heap.size + 1 < LB := (by rw [← hLB]; exact y1')) | (go_at_call 36; refine (isMinute_any _ _).mono ?_; rintro e w1 ⟨rfl, hb1⟩; obtain ⟨hc1, hf1, hs1⟩ := bcell hb1; have hz1 := hb1.size; (try simp at hz1); have B1' : Blk w1 (w.heap.size + 1) #[.int .i64 0] 3 := Blk.below (by repeat first | exact blk_at (by first | rfl | omega | (simp; done) | (simp; omega)) | assumption | refine Blk.alloc ?_ _ | refine Blk.drew ?_ | refine Blk.drewN ?_ _ | (refine Blk.other ?_ _ (by first | omega | (simp; done) | (simp; omega))) | (refine Blk.below ?_ (by assumption))) hb1; have c1' := B1'.cell 0 rfl; have y1' := B1'.lt; have g1' := B1'.free; have Z1' : Below w.heap.size w w1 := Below.trans (b := _) (by repeat first | exact Below.refl _ _ | assumption | (refine Below.alloc ?_ (by first | omega | (simp; done) | (simp; omega)) _) | (refine Below.setCell ?_ (by first | omega | (simp; done) | (simp; omega)) _) | (refine Below.drew ?_) | (refine belowDrewN ?_) | (refine Below.trans ?_ (Below.mono (by assumption) (by first | omega | (simp; done) | (simp; omega))))) (Below.mono hb1 (by first | omega | (simp; done) | (simp; omega))); have L1' : Blk w1 LB #[.int .i64 r, .int .i64 e, .int .i64 c] 81 := Blk.below (by repeat first | exact blk_at (by first | rfl | omega | (simp; done) | (simp; omega)) | assumption | refine Blk.alloc ?_ _ | refine Blk.drew ?_ | refine Blk.drewN ?_ _ | (refine Blk.other ?_ _ (by first | omega | (simp; done) | (simp; omega))) | (refine Blk.below ?_ (by assumption))) hb1; have c2' := L1'.cell 0 rfl; have c3' := L1'.cell 1 rfl; have c4' := L1'.cell 2 rfl; have y2' := L1'.lt) | ((go_at_call 39; refine (HK.out _ (by first | assumption | exact (by repeat first | exact Below.refl _ _ | assumption | (refine Below.alloc ?_ (by first | omega | (simp; done) | (simp; omega)) _) | (refine Below.setCell ?_ (by first | omega | (simp; done) | (simp; omega)) _) | (refine Below.drew ?_) | (refine belowDrewN ?_) | (refine Below.trans ?_ (Below.mono (by assumption) (by first | omega | (simp; done) | (simp; omega))))))).mono ?_; rintro e w1 ⟨rfl, hb1⟩; obtain ⟨hc1, hf1, hs1⟩ := bcell hb1; have hz1 := hb1.size; (try simp at hz1); have B1' : Blk w1 (w.heap.size + 1) #[.int .i64 0] 3 := Blk.below (by repeat first | exact blk_at (by first | rfl | omega | (simp; done) | (simp; omega)) | assumption | refine Blk.alloc ?_ _ | refine Blk.drew ?_ | refine Blk.drewN ?_ _ | (refine Blk.other ?_ _ (by first | omega | (simp; done) | (simp; omega))) | (refine Blk.below ?_ (by assumption))) hb1; have c1' := B1'.cell 0 rfl; have y1' := B1'.lt; have g1' := B1'.free; have Z1' : Below w.heap.size w w1 := Below.trans (b := _) (by repeat first | exact Below.refl _ _ | assumption | (refine Below.alloc ?_ (by first | omega | (simp; done) | (simp; omega)) _) | (refine Below.setCell ?_ (by first | omega | (simp; done) | (simp; omega)) _) | (refine Below.drew ?_) | (refine belowDrewN ?_) | (refine Below.trans ?_ (Below.mono (by assumption) (by first | omega | (simp; done) | (simp; omega))))) (Below.mono hb1 (by first | omega | (simp; done) | (simp; omega))); have L1' : Blk w1 LB #[.int .i64 r, .int .i64 e, .int .i64 c] 81 := Blk.below (by repeat first | exact blk_at (by first | rfl | omega | (simp; done) | (simp; omega)) | assumption | refine Blk.alloc ?_ _ | refine Blk.drew ?_ | refine Blk.drewN ?_ _ | (refine Blk.other ?_ _ (by first | omega | (simp; done) | (simp; omega))) | (refine Blk.below ?_ (by assumption))) hb1; have c2' := L1'.cell 0 rfl; have c3' := L1'.cell 1 rfl; have c4' := L1'.cell 2 rfl; have y2' := L1'.lt); have q3' := (Z1'.cell (p := ⟨b, _, none⟩) q2).trans q3; have q2' := Nat.lt_of_lt_of_le q2 Z1'.size))
    refine wp_name ?_
    intro W hW
    have BA : Blk W (w.heap.size + 1) #[.int .i64 0] 3 := by rw [hW]; exact (by repeat first | exact blk_at (by first | rfl | omega | (simp; done) | (simp; omega)) | assumption | refine Blk.alloc ?_ _ | refine Blk.drew ?_ | refine Blk.drewN ?_ _ | (refine Blk.other ?_ _ (by first | omega | (simp; done) | (simp; omega))) | (refine Blk.below ?_ (by assumption)))
    have BT : Blk W w1.heap.size #[.int .i64 last] 3 := by rw [hW]; exact Blk.new _ _ _
    have BL : Blk W LB #[.int .i64 r, .int .i64 e, .int .i64 c] 81 := by rw [hW]; exact (by repeat first | exact blk_at (by first | rfl | omega | (simp; done) | (simp; omega)) | assumption | refine Blk.alloc ?_ _ | refine Blk.drew ?_ | refine Blk.drewN ?_ _ | (refine Blk.other ?_ _ (by first | omega | (simp; done) | (simp; omega))) | (refine Blk.below ?_ (by assumption)))
    have ZW : Below w.heap.size w W := by rw [hW]; exact (by repeat first | exact Below.refl _ _ | assumption | (refine Below.alloc ?_ (by first | omega | (simp; done) | (simp; omega)) _) | (refine Below.setCell ?_ (by first | omega | (simp; done) | (simp; omega)) _) | (refine Below.drew ?_) | (refine belowDrewN ?_) | (refine Below.trans ?_ (Below.mono (by assumption) (by first | omega | (simp; done) | (simp; omega)))))
    clear hW q3' q2'
  case' inr =>
    have HLF := Lib.hid hlf; clear hlf
    have hn' : ¬ 0 < fs.length := by omega
    clear hn
    (refine (callsIn_wide (n := 0)).1 (callsIn_of_wp_marks Try.func21 rfl trivial (wpIn_wide.2 ?_)); simp only [Try.ntmps21, List.size_toArray, List.length_cons, List.length_nil, Nat.reduceAdd, Nat.reduceSub, Array.replicate_succ, Array.replicate_zero, List.push_toArray, List.append_toArray, List.nil_append, List.cons_append])
    go_wp2_with (first | (go_at_call 35; refine (HO.out _).mono ?_; rintro e w1 ⟨rfl, hb1⟩; obtain ⟨hc1, hf1, hs1⟩ := bcell hb1; have hz1 := hb1.size; (try simp at hz1); have B1' : Blk w1 (w.heap.size + 1) #[.int .i64 0] 3 := Blk.below (by repeat first | exact blk_at (by first | rfl | omega | (simp; done) | (simp; omega)) | assumption | refine Blk.alloc ?_ _ | refine Blk.drew ?_ | refine Blk.drewN ?_ _ | (refine Blk.other ?_ _ (by first | omega | (simp; done) | (simp; omega))) | (refine Blk.below ?_ (by assumption))) hb1; have c1' := B1'.cell 0 rfl; have y1' := B1'.lt; have g1' := B1'.free; have Z1' : Below w.heap.size w w1 := Below.trans (b := _) (by repeat first | exact Below.refl _ _ | assumption | (refine Below.alloc ?_ (by first | omega | (simp; done) | (simp; omega)) _) | (refine Below.setCell ?_ (by first | omega | (simp; done) | (simp; omega)) _) | (refine Below.drew ?_) | (refine belowDrewN ?_) | (refine Below.trans ?_ (Below.mono (by assumption) (by first | omega | (simp; done) | (simp; omega))))) (Below.mono hb1 (by first | omega | (simp; done) | (simp; omega))); obtain ⟨LB, hLB⟩ : ∃ LB, w1.heap.size = LB := ⟨_, rfl⟩; have y3' : w.heap.size + 1 < LB := (by rw [← hLB]; exact y1')) | (go_at_call 36; refine (isMinute_any _ _).mono ?_; rintro e w1 ⟨rfl, hb1⟩; obtain ⟨hc1, hf1, hs1⟩ := bcell hb1; have hz1 := hb1.size; (try simp at hz1); have B1' : Blk w1 (w.heap.size + 1) #[.int .i64 0] 3 := Blk.below (by repeat first | exact blk_at (by first | rfl | omega | (simp; done) | (simp; omega)) | assumption | refine Blk.alloc ?_ _ | refine Blk.drew ?_ | refine Blk.drewN ?_ _ | (refine Blk.other ?_ _ (by first | omega | (simp; done) | (simp; omega))) | (refine Blk.below ?_ (by assumption))) hb1; have c1' := B1'.cell 0 rfl; have y1' := B1'.lt; have g1' := B1'.free; have Z1' : Below w.heap.size w w1 := Below.trans (b := _) (by repeat first | exact Below.refl _ _ | assumption | (refine Below.alloc ?_ (by first | omega | (simp; done) | (simp; omega)) _) | (refine Below.setCell ?_ (by first | omega | (simp; done) | (simp; omega)) _) | (refine Below.drew ?_) | (refine belowDrewN ?_) | (refine Below.trans ?_ (Below.mono (by assumption) (by first | omega | (simp; done) | (simp; omega))))) (Below.mono hb1 (by first | omega | (simp; done) | (simp; omega))); have L1' : Blk w1 LB #[.int .i64 r, .int .i64 e, .int .i64 c] 81 := Blk.below (by repeat first | exact blk_at (by first | rfl | omega | (simp; done) | (simp; omega)) | assumption | refine Blk.alloc ?_ _ | refine Blk.drew ?_ | refine Blk.drewN ?_ _ | (refine Blk.other ?_ _ (by first | omega | (simp; done) | (simp; omega))) | (refine Blk.below ?_ (by assumption))) hb1; have c2' := L1'.cell 0 rfl; have c3' := L1'.cell 1 rfl; have c4' := L1'.cell 2 rfl; have y2' := L1'.lt) | (go_at_call 39; refine (HK.out _ (by first | assumption | exact (by repeat first | exact Below.refl _ _ | assumption | (refine Below.alloc ?_ (by first | omega | (simp; done) | (simp; omega)) _) | (refine Below.setCell ?_ (by first | omega | (simp; done) | (simp; omega)) _) | (refine Below.drew ?_) | (refine belowDrewN ?_) | (refine Below.trans ?_ (Below.mono (by assumption) (by first | omega | (simp; done) | (simp; omega))))))).mono ?_; rintro e w1 ⟨rfl, hb1⟩; obtain ⟨hc1, hf1, hs1⟩ := bcell hb1; have hz1 := hb1.size; (try simp at hz1); have B1' : Blk w1 (w.heap.size + 1) #[.int .i64 0] 3 := Blk.below (by repeat first | exact blk_at (by first | rfl | omega | (simp; done) | (simp; omega)) | assumption | refine Blk.alloc ?_ _ | refine Blk.drew ?_ | refine Blk.drewN ?_ _ | (refine Blk.other ?_ _ (by first | omega | (simp; done) | (simp; omega))) | (refine Blk.below ?_ (by assumption))) hb1; have c1' := B1'.cell 0 rfl; have y1' := B1'.lt; have g1' := B1'.free; have Z1' : Below w.heap.size w w1 := Below.trans (b := _) (by repeat first | exact Below.refl _ _ | assumption | (refine Below.alloc ?_ (by first | omega | (simp; done) | (simp; omega)) _) | (refine Below.setCell ?_ (by first | omega | (simp; done) | (simp; omega)) _) | (refine Below.drew ?_) | (refine belowDrewN ?_) | (refine Below.trans ?_ (Below.mono (by assumption) (by first | omega | (simp; done) | (simp; omega))))) (Below.mono hb1 (by first | omega | (simp; done) | (simp; omega))); have L1' : Blk w1 LB #[.int .i64 r, .int .i64 e, .int .i64 c] 81 := Blk.below (by repeat first | exact blk_at (by first | rfl | omega | (simp; done) | (simp; omega)) | assumption | refine Blk.alloc ?_ _ | refine Blk.drew ?_ | refine Blk.drewN ?_ _ | (refine Blk.other ?_ _ (by first | omega | (simp; done) | (simp; omega))) | (refine Blk.below ?_ (by assumption))) hb1; have c2' := L1'.cell 0 rfl; have c3' := L1'.cell 1 rfl; have c4' := L1'.cell 2 rfl; have y2' := L1'.lt))
    refine wp_name ?_
    intro W hW
    have BA : Blk W (w.heap.size + 1) #[.int .i64 0] 3 := by rw [hW]; exact (by repeat first | exact blk_at (by first | rfl | omega | (simp; done) | (simp; omega)) | assumption | refine Blk.alloc ?_ _ | refine Blk.drew ?_ | refine Blk.drewN ?_ _ | (refine Blk.other ?_ _ (by first | omega | (simp; done) | (simp; omega))) | (refine Blk.below ?_ (by assumption)))
    have BT : Blk W w1.heap.size #[.int .i64 last] 3 := by rw [hW, HLF.out]; exact Blk.new _ _ _
    have BL : Blk W LB #[.int .i64 r, .int .i64 e, .int .i64 c] 81 := by rw [hW]; exact (by repeat first | exact blk_at (by first | rfl | omega | (simp; done) | (simp; omega)) | assumption | refine Blk.alloc ?_ _ | refine Blk.drew ?_ | refine Blk.drewN ?_ _ | (refine Blk.other ?_ _ (by first | omega | (simp; done) | (simp; omega))) | (refine Blk.below ?_ (by assumption)))
    have ZW : Below w.heap.size w W := by rw [hW]; exact (by repeat first | exact Below.refl _ _ | assumption | (refine Below.alloc ?_ (by first | omega | (simp; done) | (simp; omega)) _) | (refine Below.setCell ?_ (by first | omega | (simp; done) | (simp; omega)) _) | (refine Below.drew ?_) | (refine belowDrewN ?_) | (refine Below.trans ?_ (Below.mono (by assumption) (by first | omega | (simp; done) | (simp; omega)))))
    clear hW
  all_goals (
    clear HO HK c1' c2' c3' c4'
    obtain ⟨TB, hTB⟩ : ∃ TB, w1.heap.size = TB := ⟨_, rfl⟩
    rw [hTB] at BT
    have x0 := BT.cell 0 rfl; have x1 := BL.cell 1 rfl; have x2 := BA.cell 0 rfl; have g2 := BA.free
    have lA := BA.lt; have lT := BT.lt; have lL := BL.lt
    have nT : TB ≠ w.heap.size + 1 := by omega
    have nL : LB ≠ w.heap.size + 1 := by omega
    go_region_held3 (fun w' => w'.cell? ⟨TB, 0, none⟩ = some (.int .i64 last) ∧ w'.cell? ⟨LB, 1, none⟩ = some (.int .i64 e)) (first | exact ⟨x0, x1⟩ | exact ⟨(Blk.drew (Blk.other BT _ nT)).cell 0 rfl, (Blk.drew (Blk.other BL _ nL)).cell 1 rfl⟩ | exact ⟨(Blk.other (Blk.drew BT) _ nT).cell 0 rfl, (Blk.other (Blk.drew BL) _ nL).cell 1 rfl⟩ | (go_keep; done)) (fail)
    have hwr : IntKind.i64.wrap (last + IntKind.i64.wrap (3 * e)) = last + 3 * e := by rw [IntKind.wrap_i64, IntKind.wrap_i64]; omega
    have hm720 : 0 ≤ f % 720 ∧ f % 720 < 720 := by omega
    go_wp2_with fail
    refine wp_name ?_
    intro W2 hW2
    have CA : Blk W2 (w.heap.size + 1) #[.int .i64 last] 3 := by rw [hW2]; first | exact (BA.set 0 _).drew | exact (Blk.drew BA).set 0 _
    have CT : Blk W2 TB #[.int .i64 last] 3 := by rw [hW2]; exact (by repeat first | exact blk_at (by first | rfl | omega | (simp; done) | (simp; omega)) | assumption | refine Blk.alloc ?_ _ | refine Blk.drew ?_ | refine Blk.drewN ?_ _ | (refine Blk.other ?_ _ (by first | omega | (simp; done) | (simp; omega))) | (refine Blk.below ?_ (by assumption)))
    have CL : Blk W2 LB #[.int .i64 r, .int .i64 e, .int .i64 c] 81 := by rw [hW2]; exact (by repeat first | exact blk_at (by first | rfl | omega | (simp; done) | (simp; omega)) | assumption | refine Blk.alloc ?_ _ | refine Blk.drew ?_ | refine Blk.drewN ?_ _ | (refine Blk.other ?_ _ (by first | omega | (simp; done) | (simp; omega))) | (refine Blk.below ?_ (by assumption)))
    have ZW2 : Below w.heap.size w W2 := by rw [hW2]; exact (by repeat first | exact Below.refl _ _ | assumption | (refine Below.alloc ?_ (by first | omega | (simp; done) | (simp; omega)) _) | (refine Below.setCell ?_ (by first | omega | (simp; done) | (simp; omega)) _) | (refine Below.drew ?_) | (refine belowDrewN ?_) | (refine Below.trans ?_ (Below.mono (by assumption) (by first | omega | (simp; done) | (simp; omega)))))
    clear hW2 x0 x1 x2 g2 BA BT BL ZW
    have x0 := CL.later 0 rfl; have x1 := CL.later 1 rfl; have x2 := CL.later 2 rfl
    have HS := Lib.hid (fun W => start_any r e c (f % 720) f W hok hm'.1)
    have hso := Pu.start_ok (s := f % 720) (t := f) hok hm720.1 hm720.2 hm'.1
    rw [HD0.out] at HS hso
    obtain ⟨s0, k0⟩ := d0
    dsimp only at HS
    (refine wp_region_tail 9 (by kernel_rfl) (by kernel_rfl) ?_; simp only [List.take_succ_cons, List.take_zero, List.drop_succ_cons, List.drop_zero]; (repeat (any_goals (first | go_big_quiet_step ((first | (go_at_call 41; exact later_call (HS.out _)))) | quiet_step ((first | (go_at_call 41; exact later_call (HS.out _)))) | (refine wpQuiet_step (fun K hK => ?_); go_simp; split <;> (refine hK _ ?_; clear hK K))))); (all_goals (refine wpQuiet_nil ?_; intro wq hw'; obtain ⟨⟨_, hbq⟩, hw''⟩ := hw'; subst hw'')))
    have BQ := CA.below hbq; have TQ := CT.below hbq
    have hwq : Below w.heap.size w wq := Below.trans ZW2 (hbq.mono ZW2.size)
    have hp5 := HF.out.below hwq
    obtain ⟨U, hU⟩ : ∃ U, U = last + 3 * e := ⟨_, rfl⟩
    have HFo := Lib.hid (follow_any (fun x => x < w.heap.size) r e c f U s0 k0 _ cp fs wq hp5 hcp hR)
    rw [hwr, ← hU]
    rw [← hU] at HV
    have hUb : last ≤ U ∧ U ≤ last + 1080 := by omega
    clear x0 x1 x2 hwr hU
    go_wp2_with (go_at_call 40; refine HFo.out.mono ?_; rintro en w5 ⟨rfl, hb5, hF5⟩)
    have hq5 := TQ.lt
    have hqA := BQ.lt
    have hz5 : wq.heap.size + 5 ≤ w5.heap.size := hF5.u.lt
    have hlow : Below w.heap.size w w5 := hwq.trans (hb5.mono hwq.size)
    have hww : w.heap.size ≤ wq.heap.size := hwq.size
    have hI0 : BackI w wq.heap.size (w.heap.size + 1) TB last (Pu.backAt ⟨r, e, c⟩ f fs ⟨s0, k0⟩ last) 0 (fun x => wq.heap.size ≤ x ∧ x < wq.heap.size + 5) w5 :=
      ⟨hlow, fun b hb => hb.1, by omega, by simpa [Pu.backAt] using BQ.below hb5, TQ.below hb5⟩
    have ha := backI_abide (w := w) (M := wq.heap.size) (AB := w.heap.size + 1) (TB := TB) (last := last) (at' := Pu.backAt ⟨r, e, c⟩ f fs ⟨s0, k0⟩ last) hww hqA hq5
    have hkd := Pu.chk_kinds hz.2
    have hIT := follow1_iter (fun x => x < w.heap.size) r e c f U s0 k0 fs w5 wq.heap.size hok hF5 (fun x hx => by omega) hkd (by omega) (by omega) (by omega) hso.1 hso.2.1 hso.2.2.1 (by have := hso.2.2.2; dsimp only at *; omega)
    clear hF5 HFo BQ TQ CA CT CL HS HF
    refine (wpIn_wide (n := 0)).1 (rangeFunc_wide (gf := 56) (lb := folCap wq.heap.size) (by rfl) ?_ hIT (fun b hb => by have := hb.2; omega) (fun b hb => by omega) (fun x => rfl) _ ha hI0 ?_ ?_)
    · intro args w; rfl
    · intro l O k W hk hi hSO hOl hlW
      have hfk : folEnc ((Pu.fol ⟨r, e, c⟩ f U fs ⟨s0, k0⟩)[k]) = #[.int .i64 (f + k + 1), .agg #[.int .i64 ((Pu.folN ⟨r, e, c⟩ f fs ⟨s0, k0⟩ (k + 1)).1).s, .int .i64 ((Pu.folN ⟨r, e, c⟩ f fs ⟨s0, k0⟩ (k + 1)).1).k]] := by simp [folEnc, Pu.fol]
      have hkU : (k : Int) < U - f := by simp [Pu.fol] at hk; omega
      rw [hfk, fold2]
      have hat : Pu.backAt ⟨r, e, c⟩ f fs ⟨s0, k0⟩ last (k + 1) = if last ≤ f + k + 1 ∧ (Pu.folN ⟨r, e, c⟩ f fs ⟨s0, k0⟩ (k + 1)).1.s ≠ (f + k + 1) % 720 then f + k + 1 + 1 else Pu.backAt ⟨r, e, c⟩ f fs ⟨s0, k0⟩ last k := rfl
      generalize (Pu.folN ⟨r, e, c⟩ f fs ⟨s0, k0⟩ (k + 1)).1 = dd at hat
      obtain ⟨s', k'⟩ := dd
      dsimp only at hat ⊢
      clear hfk hI0 hIT hlow hkd
      have HAT := Lib.hid hat; clear hat
      have HA := Lib.hid ha
      clear ha
      simp only [List.setIfInBounds_toArray, List.set_cons_succ, List.set_cons_zero]
      have HR := Lib.hid (fun W => CallsIn.inRound l ((callsIn_wide (n := 0)).2 (isRight_any s' k' (f + k + 1) W (by omega))))
      gi_wp2_with fail
      refine ⟨Keeps.alloc _ _ _, HA.out _ _ _ _ _ hi (Keeps.alloc _ _ _) (fun _ h => h) (fun _ h => .inl h), ?_⟩
      intro W2 hk2 hi2
      have hv : Blk W2 W.heap.size #[.int .i64 s', .int .i64 k'] 89 := hk2.blk (Blk.new _ _ _) (by omega)
      have c0 := hv.cell 0 rfl; have c1 := hv.cell 1 rfl
      have x0 := hi2.box.free; have x1 := hi2.lst.cell 0 rfl
      have hzW := hv.lt; have hzT := hi2.lst.lt; have hzA := hi2.box.lt
      have q3 := hi2.up
      have x2 := hi2.box.cell 0 rfl
      have hA0 : ¬ O (w.heap.size + 1) ∧ w.heap.size ≤ w.heap.size + 1 := ⟨fun h => by have := q3 _ h; omega, by omega⟩
      by_cases q1 : last ≤ f + k + 1
      · cases q2 : s' == (f + k + 1) % 720
        · gi_wp2_with (refine ⟨trivial, rfl, ?_⟩; refine (HR.out _).mono ?_; rintro e w1 ⟨rfl, hb1⟩; obtain ⟨hc1, hf1, hs1⟩ := bcell hb1; have hz1 := hb1.size; (try simp at hz1))
          have hat := HAT.out
          rw [if_pos ⟨q1, by simpa using q2⟩] at hat
          exact hi2.set hb1 hat (by omega) nT hA0
        · gi_wp2_with (refine ⟨trivial, rfl, ?_⟩; refine (HR.out _).mono ?_; rintro e w1 ⟨rfl, hb1⟩; obtain ⟨hc1, hf1, hs1⟩ := bcell hb1; have hz1 := hb1.size; (try simp at hz1))
          have hat := HAT.out
          rw [if_neg (fun h => h.2 (by simpa using q2))] at hat
          exact hi2.same hb1 hat hww
      · gi_wp2_with (refine ⟨trivial, ?_⟩)
        have hat := HAT.out
        rw [if_neg (fun h => by omega)] at hat
        exact hi2.same (Below.refl _ _) hat hww
    · intro D O W hi hSO hOD hD hDW
      have hN : (Pu.fol ⟨r, e, c⟩ f U fs ⟨s0, k0⟩).length = (U - f).toNat := by simp [Pu.fol]
      rw [hN] at hi
      have c0 := hi.box.cell 0 rfl
      have f0 := hi.box.free
      simp only [Exit.inBlock, Exit.then]
      have hDA : D ≠ w.heap.size + 1 := by have := hi.up _ hOD; omega
      have hup := hi.up
      have hbig := hi.big
      have hlo : ∀ v, Below w.heap.size w ((W.setCell ⟨w.heap.size + 1, 0, none⟩ v).putObj D (.deferred none)) := fun v =>
        (hi.low.setCell (by simp) v).trans ((Keeps.putObj (O := fun b => b = D) _ D _ rfl).to_below (by simp; omega) (fun b hb => by omega))
      have HLO := Lib.hid hlo; clear hlo
      have HDD := Lib.hid hDW; clear hDW
      have hce : ∀ v, ((W.setCell ⟨w.heap.size + 1, 0, none⟩ v).putObj D (.deferred none)).cell? ⟨w.heap.size + 1, 0, none⟩ = some v := fun v =>
        Blk.cell (vs := #[v]) (t := 3) ((World.putObj_heap_other (fun h => hDA h.symm)).trans (by have := hi.box.set 0 v; simpa [Blk] using this)) 0 rfl
      have HCE := Lib.hid hce; clear hce
      by_cases hU2 : U < Pu.backAt ⟨r, e, c⟩ f fs ⟨s0, k0⟩ last (U - f).toNat
      · go_wp2_with fail
        refine leave_mark (v := .tuple #[.int .i64 0, .int .i64 7]) rfl ((Below.heap_setCell _ _ _ _ hDA).trans HDD.out) ?_ ⟨by rw [HV.out, if_pos hU2], HLO.out _⟩
        simp [results, Try.results21, go_sem, HCE.out]
      · go_wp2_with fail
        refine leave_mark (v := .tuple #[.int .i64 (Pu.backAt ⟨r, e, c⟩ f fs ⟨s0, k0⟩ last (U - f).toNat), .int .i64 0]) rfl ((Below.heap_setCell _ _ _ _ hDA).trans HDD.out) ?_ ⟨by rw [HV.out, if_neg (by omega)], HLO.out _⟩
        simp [results, Try.results21, go_sem, HCE.out])
end Go.Proofs.Ytpjlihkpnhamlaa
