/- Hands that stand. -/
import Derived.Test.YtgkoldcmbcbbpaaGTopDropDial
import Derived.Test.YtgkoldcmbcbbpaaEvDial
import Derived.Test.YtgkoldcmbcbbpaaEvDrop
set_option linter.unusedSimpArgs false
set_option linter.unusedVariables false
namespace Go.Proofs.Ytgkoldcmbcbbpaa.Sy
open Go.RowKit
set_option maxRecDepth 100000

theorem pubHours_ev (n : Nat) (hn : 30 < n) (a b : Int) : ev_top_pubHours n a b = some (List.replicate 24 (a, b)) := by
  have key : ∀ (k m : Nat) (i : Int) (l : List (Int × Int)), i + k = 24 → 0 ≤ i → k < m → l.length + k = 24 → ev_top_pubHours_l0 n m i a b l = some (l ++ List.replicate k (a, b)) := by
    intro k
    induction k with
    | zero =>
      intro m i l hi h0 hm hl
      cases m with
      | zero => omega
      | succ m => rw [ev_top_pubHours_l0, cond_if, if_neg (by simp; omega)]; simp
    | succ k ih =>
      intro m i l hi h0 hm hl
      cases m with
      | zero => omega
      | succ m =>
        rw [ev_top_pubHours_l0, cond_if, if_pos (by simp; omega), chk_of (room_iff.2 (by simp; omega)), chk_of (in64_of (by omega)), ih m (i + 1) _ (by omega) (by omega) (by omega) (by simp; omega)]
        simp [List.replicate_succ]
  rw [ev_top_pubHours, key 24 n 0 [] (by omega) (by omega) (by omega) (by simp)]
  simp
theorem pubDropD_ev : ev_top_pubDrop 2200 = some true := by decide +kernel
theorem pubDialD_ev : ev_top_pubDial 2200 = some true := by decide +kernel
theorem ev_DropDial_l2 {sp : List (Int × Int)} (hsp : sp.length ≤ 10) {off : Int × Int × Int} {now : Int × Int × Int} {later : Int} (hl : 0 ≤ Int.tmod later 3601 ∧ Int.tmod later 3601 ≤ 3600) (ho : -100000 ≤ off.1 ∧ off.1 ≤ 100000) (ho2 : -100000 ≤ off.2.1 ∧ off.2.1 ≤ 100000) (hn1 : now.1 = off.1 - Int.tmod later 3601) (hn2 : now.2.1 = off.2.1 - Int.tmod later 3601) :
    ∀ (k m i : Nat), i + k = sp.length → k < m → ev_top_TopDropDial_l2 2200 (sp, 0) (sp, 0) off later now m (i : Int) = some true := by
  intro k
  induction k with
  | zero =>
    intro m i hi hm
    cases m with
    | zero => omega
    | succ m =>
      have hs : ev_top_pubSpan 2200 (off.1 - Int.tmod later 3601) (off.2.1 - Int.tmod later 3601) = some (off.1 - Int.tmod later 3601, off.2.1 - Int.tmod later 3601) := by rw [ev_top_pubSpan]
      rw [ev_top_TopDropDial_l2, cond_if, if_neg (by simp; omega), chk_of (in64_of (by omega)), chk_of (in64_of (by omega)), bind_of hs, cond_if, if_pos (by simp [hn1, hn2]), bind_of pubDropD_ev, cond_if, if_pos rfl, bind_of pubDialD_ev]
  | succ k ih =>
    intro m i hi hm
    cases m with
    | zero => omega
    | succ m =>
      have hlt : i < sp.length := by omega
      rw [ev_top_TopDropDial_l2, cond_if, if_pos (by simp; omega), idx_nat (List.getElem?_eq_getElem hlt), idx_nat (List.getElem?_eq_getElem hlt), cond_if, if_neg (by simp), chk_of (in64_of (by omega))]
      exact ih m (i + 1) (by omega) (by omega)
theorem joinP_length : ∀ (l acc : List (Int × Int)), (joinP acc l).length ≤ acc.length + l.length := by
  intro l
  induction l with
  | nil => intro acc; simp [joinP]
  | cons x xs ih =>
    intro acc
    unfold joinP
    split
    · split
      · have := ih (acc.set (acc.length - 1) (‹Int × Int›.1, max ‹Int × Int›.2 x.2)); simp at this ⊢; omega
      · have := ih (acc ++ [x]); simp at this ⊢; omega
    · have := ih (acc ++ [x]); simp at this ⊢; omega
theorem topDropDial_ev {v1 v2 v3 v4 v5 w6 w7 later : Int} (hv : (0 ≤ v1 ∧ v1 ≤ 255) ∧ (0 ≤ v2 ∧ v2 ≤ 255) ∧ (0 ≤ v3 ∧ v3 ≤ 255) ∧ (0 ≤ v4 ∧ v4 ≤ 255) ∧ (0 ≤ v5 ∧ v5 ≤ 255)) (hw : (0 ≤ w6 ∧ w6 ≤ 255) ∧ (0 ≤ w7 ∧ w7 ≤ 255)) (hlt : 0 ≤ later ∧ later ≤ 65535) :
    ev_top_TopDropDial 2200 v1 v2 v3 v4 v5 w6 w7 later = some true := by
  obtain ⟨⟨a1, a2⟩, ⟨b1, b2⟩, ⟨c1, c2⟩, ⟨d1, d2⟩, e1, e2⟩ := hv
  have t2 : Int.tmod v2 5 = v2 % 5 := Int.tmod_eq_emod_of_nonneg b1
  have t3 : Int.tmod v3 (1 + v1 + 1) = v3 % (1 + v1 + 1) := Int.tmod_eq_emod_of_nonneg c1
  have t4 : Int.tmod v4 30 = v4 % 30 := Int.tmod_eq_emod_of_nonneg d1
  have t5 : Int.tmod v5 4 = v5 % 4 := Int.tmod_eq_emod_of_nonneg e1
  have t8 : Int.tdiv v4 8 = v4 / 8 := Int.tdiv_eq_ediv_of_nonneg d1
  have tl : Int.tmod later 3601 = later % 3601 := Int.tmod_eq_emod_of_nonneg hlt.1
  obtain ⟨a, ha⟩ : ∃ a, a = 1 + v2 % 5 := ⟨_, rfl⟩
  obtain ⟨ln, hln⟩ : ∃ ln, ln = v3 % (1 + v1 + 1) := ⟨_, rfl⟩
  have ha' : 1 ≤ a ∧ a ≤ 5 := by omega
  have hln0 : 0 ≤ ln := by rw [hln]; exact Int.emod_nonneg _ (by omega)
  have hln1 : ln < 1 + v1 + 1 := by rw [hln]; exact Int.emod_lt_of_pos _ (by omega)
  have hh : OkH (List.replicate 24 (a, a)) := ⟨by simp, fun x hx => by obtain ⟨_, rfl⟩ := List.mem_replicate.1 hx; simp only; omega⟩
  have hq0 := Int.ediv_nonneg hln0 (show 0 ≤ a by omega)
  have hq1 : ln / a ≤ ln := Int.ediv_le_self _ hln0
  have hsp : ev_top_pubSpan 2200 a a = some (a, a) := by rw [ev_top_pubSpan]
  have hg : ev_drop_Goes 2200 (1 + v1) (List.replicate 24 (a, a)) ln 0 = some (ln / a, ln / a, 0) := by
    rw [ev_Goes (by decide) (by omega) hh (by omega) (by omega)]
    simp only [List.map_replicate]
    rw [goesG_const (by omega) 2000 ln 0 (by omega)]
    congr 1
    simp only [Prod.mk.injEq, and_true]
    omega
  have et : Int.tdiv ln a = ln / a := Int.tdiv_eq_ediv_of_nonneg hln0
  rw [ev_top_TopDropDial]
  simp only [t2, t3, ← ha, ← hln]
  rw [chk_of (in64_of (by omega)), chk_of (in64_of (by omega)), chk_of (in64_of (by omega)), chk_of (in64_of (by omega)), chk_of (in64_of (by omega)), chk_of (in64_of (by omega)), bind_of hsp, bind_of (pubHours_ev 2200 (by decide) a a), chk_of (in64_of (by omega)), chk_of (in64_of (by omega)), chk_of (by simp; omega), bind_of hg, cond_if, if_neg (by simp), cond_if, if_neg (by simp),
    chk_of (in64_of (by omega)), chk_of (in64_of (by omega)), chk_of (by simp; omega), chk_of (in64_of (by omega)), chk_of (in64_of (by omega)), chk_of (by simp; omega), et, chk_of (in64_of (by omega)), cond_if, if_neg (by simp)]
  obtain ⟨j, hj, hj1, hj2⟩ : ∃ j, ([1, 30, 60, 120] : List Int)[(v5 % 4).toNat]? = some j ∧ (1 ≤ j ∧ j ≤ 3600) ∧ Int.tmod 3600 j = 0 := by
    have : (v5 % 4).toNat = 0 ∨ (v5 % 4).toNat = 1 ∨ (v5 % 4).toNat = 2 ∨ (v5 % 4).toNat = 3 := by omega
    rcases this with e | e | e | e <;> rw [e]
    · exact ⟨1, rfl, by decide, by decide⟩
    · exact ⟨30, rfl, by decide, by decide⟩
    · exact ⟨60, rfl, by decide, by decide⟩
    · exact ⟨120, rfl, by decide, by decide⟩
  obtain ⟨f, hf⟩ : ∃ f : Face, f = (0, 0, [(v4 % 30, 1, 1)], v5 - 128, v4 / 8) := ⟨_, rfl⟩
  have hfo : FaceOk f ((v4 % 30 * 3600 + 999) / 1000) := by
    rw [hf]
    exact ⟨by simp, by simp only; omega, by simp only; omega, .inr ⟨v4 % 30, rfl, by omega, by omega, rfl⟩⟩
  obtain ⟨q, hq⟩ : ∃ q, q = 3600 * (ln / a) := ⟨_, rfl⟩
  obtain ⟨lt, hlt'⟩ : ∃ lt, lt = later % 3601 := ⟨_, rfl⟩
  have hwd : ev_top_pubSpan 2200 (w6 - 128) (w6 - 128 + w7) = some (w6 - 128, w6 - 128 + w7) := by rw [ev_top_pubSpan]
  have hsp2 : ev_top_pubSpan 2200 (0 - lt) (0 - lt) = some (0 - lt, 0 - lt) := by rw [ev_top_pubSpan]
  have hS1 := ev_Shows (n := 2200) (by decide) hj1 hj2 (e := 0) (by decide) hfo (at_ := q) (w1 := w6 - 128) (w2 := w6 - 128 + w7) (by omega) (by omega)
  have hO1 := ev_Off (n := 2200) (by decide) hj1 hj2 (e := 0) (by decide) hfo (at_ := q) (w1 := w6 - 128) (w2 := w6 - 128 + w7) (by omega) (by omega)
  have hS2 := ev_Shows (n := 2200) (by decide) hj1 hj2 (e := 0 - lt) (by omega) hfo (at_ := q + lt) (w1 := w6 - 128) (w2 := w6 - 128 + w7) (by omega) (by omega)
  have hO2 := ev_Off (n := 2200) (by decide) hj1 hj2 (e := 0 - lt) (by omega) hfo (at_ := q + lt) (w1 := w6 - 128) (w2 := w6 - 128 + w7) (by omega) (by omega)
  rw [show q + lt + (0 - lt) = q + 0 by omega] at hS2 hO2
  have m0 := Int.emod_nonneg (q + 0) (show j ≠ 0 by omega)
  have m1 := Int.emod_lt_of_pos (q + 0) (show 0 < j by omega)
  have hr := handsP_range hfo (d := drivenP j (q + 0)) (w1 := w6 - 128) (w2 := w6 - 128 + w7) (by unfold drivenP; omega)
  obtain ⟨hd, hde⟩ : ∃ hd, hd = handsP f ((v4 % 30 * 3600 + 999) / 1000) (drivenP j (q + 0)) (w6 - 128) (w6 - 128 + w7) := ⟨_, rfl⟩
  have hset : hd.1 - q ≤ 10000 ∧ -100000 ≤ hd.1 - q ∧ hd.2 - q ≤ 100000 ∧ -100000 ≤ hd.2 - q := by
    have hl := lagsP_range hfo (drivenP j (q + 0)) (w6 - 128) (w6 - 128 + w7)
    have f1 : f.1 = 0 := by rw [hf]
    have f2 : f.2.1 = 0 := by rw [hf]
    have : drivenP j (q + 0) = q + 0 - (q + 0) % j := rfl
    rw [hde]; unfold handsP
    simp only [f1, f2]
    omega
  rw [← hde] at hS1 hO1 hS2 hO2
  obtain ⟨sp, hspe⟩ : ∃ sp, sp = joinP [] (isort bySpan (spansP hd)) := ⟨_, rfl⟩
  have hspl : sp.length ≤ 10 := by
    have h1 := joinP_length (isort bySpan (spansP hd)) []
    rw [isort_length, ← hspe] at h1
    have h2 : (spansP hd).length ≤ 2 := by unfold spansP; split <;> simp
    simp at h1; omega
  rw [← hspe] at hS1 hS2
  rw [hf] at hS1 hO1 hS2 hO2
  rw [ev_top_TopDropDial_j0]
  simp only [t4, t5, t8, tl, ← hq, ← hlt']
  rw [chk_of (in64_of (by omega)), chk_of (in64_of (by omega)), chk_of (in64_of (by omega)), chk_of (in64_of (by omega)), chk_of (in64_of (by omega)), chk_of (in64_of (by omega)), chk_of (in64_of (by omega)), chk_of (by simp; omega), idx_of (x := j) (by omega) hj, chk_of (in64_of (by omega)), chk_of (in64_of (by omega)), chk_of (in64_of (by omega)), chk_of (in64_of (by omega)), chk_of (in64_of (by omega)), chk_of (in64_of (by omega)), bind_of hwd, bind_of hS1, bind_of hO1,
    chk_of (in64_of (by omega)), chk_of (in64_of (by omega)), bind_of hsp2, chk_of (in64_of (by omega)), bind_of hS2, chk_of (in64_of (by omega)), bind_of hO2, cond_if, if_neg (by simp), cond_if, if_neg (by simp), cond_if, if_neg (by simp), cond_if, if_neg (by simp), cond_if, if_neg (by simp), ev_top_TopDropDial_j1]
  exact ev_DropDial_l2 hspl (by rw [tl]; omega) (by simp only; omega) (by simp only; omega) (by simp only [tl, ← hlt']; omega) (by simp only [tl, ← hlt']; omega) sp.length 2200 0 (by omega) (by omega)
theorem topDropDial_evx {v1 : Int} {v2 : Int} {v3 : Int} {v4 : Int} {v5 : Int} {wind6 : Int} {wind7 : Int} {later8 : Int} (h0 : (Lit.int .u8 v1).wf = true ∧ (Lit.int .u8 v2).wf = true ∧ (Lit.int .u8 v3).wf = true ∧ (Lit.int .u8 v4).wf = true ∧ (Lit.int .u8 v5).wf = true) (h1 : (Lit.int .u8 wind6).wf = true ∧ (Lit.int .u8 wind7).wf = true) (h2 : (Lit.int .u16 later8).wf = true) :
    ∃ n, ev_top_TopDropDial n v1 v2 v3 v4 v5 wind6 wind7 later8 = some true := by
  simp only [wf8] at h0 h1
  have w0 : 0 ≤ later8 ∧ later8 ≤ 65535 := by
    simpa only [Lit.wf, Bool.and_eq_true, decide_eq_true_eq, show IntKind.u16.min = 0 from rfl, show IntKind.u16.max = 65535 from rfl] using h2
  exact ⟨2200, topDropDial_ev h0 h1 w0⟩
end Go.Proofs.Ytgkoldcmbcbbpaa.Sy
