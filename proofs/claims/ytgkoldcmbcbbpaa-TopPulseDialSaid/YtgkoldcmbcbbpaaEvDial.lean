/- What a dial shows, in plain terms: one face, an error that is known. -/
import Derived.Test.YtgkoldcmbcbbpaaGDial
import Derived.Test.YtgkoldcmbcbbpaaSpDial
import Derived.Test.YtgkoldcmbcbbpaaEvSort
set_option linter.unusedSimpArgs false
set_option linter.unusedVariables false
namespace Go.Proofs.Ytgkoldcmbcbbpaa.Sy
open Go.RowKit
set_option maxRecDepth 100000

abbrev Link := Int × Int × Int
abbrev Face := Int × Int × List Link × Int × Int
/-- a face that is valid, and its slack -/
structure FaceOk (f : Face) (sl : Int) : Prop where
  set : -3600 ≤ f.1 ∧ f.1 ≤ f.2.1 ∧ f.2.1 ≤ 3600
  weight : -10000 ≤ f.2.2.2.1 ∧ f.2.2.2.1 ≤ 10000
  friction : 0 ≤ f.2.2.2.2 ∧ f.2.2.2.2 ≤ 10000
  links : (f.2.2.1 = [] ∧ sl = 0) ∨ ∃ s, f.2.2.1 = [(s, 1, 1)] ∧ 0 ≤ s ∧ s ≤ 1000 ∧ sl = (s * 3600 + 999) / 1000
theorem FaceOk.slack {f : Face} {sl : Int} (h : FaceOk f sl) : 0 ≤ sl ∧ sl ≤ 3600 := by
  rcases h.links with ⟨_, rfl⟩ | ⟨s, _, h0, h1, rfl⟩ <;> omega
theorem ev_over {n : Nat} {a b : Int} (ha : 0 ≤ a ∧ a ≤ 1000000000) (hb : 1 ≤ b ∧ b ≤ 1000000) : ev_dial_over n a b = some ((a + b - 1) / b) := by
  have e : Int.tdiv (a + b - 1) b = (a + b - 1) / b := Int.tdiv_eq_ediv_of_nonneg (by omega)
  have h0 := Int.ediv_nonneg (a := a + b - 1) (b := b) (by omega) (by omega)
  have h1 := Int.ediv_le_self (a := a + b - 1) b (by omega)
  rw [ev_dial_over, chk_of (in64_of (by omega)), chk_of (in64_of (by omega)), chk_of (by simp; omega), e, chk_of (in64_of (by omega))]
theorem ev_isSpanD {n : Nat} (hn : 2 < n) {a b lo hi : Int} (h : lo ≤ a ∧ a ≤ b ∧ b ≤ hi) : ev_dial_isSpan n a b lo hi = some true := by
  rw [ev_dial_isSpan, bind_of (wi2_dial hn), cond_if, if_pos (by simp; omega)]; congr 1; simp; omega
theorem ev_gcd11 {n : Nat} (hn : 2 < n) : ev_dial_gcd n 1 1 = some 1 := by
  obtain ⟨m, rfl⟩ : ∃ m, n = m + 2 := ⟨n - 2, by omega⟩
  rw [ev_dial_gcd, ev_dial_gcd_l0, cond_if, if_pos (by decide), chk_of (by decide), ev_dial_gcd_l0, cond_if, if_neg (by decide)]
theorem ev_newFace {n : Nat} (hn : 10 < n) {f : Face} {sl : Int} (h : FaceOk f sl) : ev_dial_newFace n f.1 f.2.1 f.2.2.1 f.2.2.2.1 f.2.2.2.2 = some (f.1, f.2.1, f.2.2.1, f.2.2.2.1, f.2.2.2.2, sl, true) := by
  obtain ⟨f1, f2, fl, f4, f5⟩ := f
  obtain ⟨h1, h2, h3, h4⟩ := h
  simp only at h1 h2 h3 h4 ⊢
  rw [ev_dial_newFace, bind_of (ev_isSpanD (by omega) ⟨h1.1, h1.2⟩), cond_if, if_neg (by simp), cond_if]
  rcases h4 with ⟨rfl, rfl⟩ | ⟨s, rfl, hs0, hs1, rfl⟩
  · rw [if_neg (by simp), bind_of (wi1_dial (by omega)), cond_if, if_neg (by simp; omega), bind_of (wi1_dial (by omega)), cond_if, if_neg (by simp; omega), ev_dial_newFace_j0]
    obtain ⟨m, rfl⟩ : ∃ m, n = m + 2 := ⟨n - 2, by omega⟩
    rw [ev_dial_newFace_l1, cond_if, if_neg (by simp), ev_dial_newFace_l2, cond_if, if_neg (by simp), chk_of (by decide), bind_of (ev_over (by omega) (by omega))]
    rfl
  · have hlk : ev_dial_isLink n s 1 1 = some true := by
      rw [ev_dial_isLink, bind_of (wi1_dial (by omega)), cond_if, if_pos (by simp; omega), bind_of (wi2_dial (by omega))]; rfl
    rw [if_neg (by simp), bind_of (wi1_dial (by omega)), cond_if, if_neg (by simp; omega), bind_of (wi1_dial (by omega)), cond_if, if_neg (by simp; omega), ev_dial_newFace_j0]
    have hg := ev_gcd11 (n := n) (by omega)
    obtain ⟨m, rfl⟩ : ∃ m, n = m + 4 := ⟨n - 4, by omega⟩
    rw [ev_dial_newFace_l1, cond_if, if_pos (by simp), idx_of (x := (s, 1, 1)) (by decide) (by rfl), bind_of hlk, cond_if, if_neg (by simp), bind_of hg, chk_of (by decide), chk_of (by decide), chk_of (by rfl), chk_of (by decide)]
    rw [ev_dial_newFace_l1, cond_if, if_neg (by simp), ev_dial_newFace_l2, cond_if, if_pos (by simp), idx_of (x := (s, 1, 1)) (by decide) (by rfl)]
    simp only
    have e1 : Int.tdiv (Int.tdiv 1 1 * 1) 1 = 1 := rfl
    have e0 : (Int.tdiv 1 1 * 1) = 1 := rfl
    rw [chk_of (in64_of (by omega)), chk_of (in64_of (by omega)), chk_of (by decide), e1, chk_of (by decide), chk_of (in64_of (by omega)), chk_of (in64_of (by omega)), chk_of (by decide), ev_dial_newFace_l2, cond_if, if_neg (by simp), e0, chk_of (by decide), bind_of (ev_over (by omega) (by omega))]
    have e2 : (0 + s * 3600 * 1 * 1 + 1000 * 1 - 1) / (1000 * 1) = (s * 3600 + 999) / 1000 := by
      congr 1 <;> omega
    rw [e2]
    have e3 : decide ((s * 3600 + 999) / 1000 ≤ 3600) = true := by simp; omega
    rw [e3]
theorem ev_newWorks {n : Nat} (hn : 10 < n) {j e1 e2 : Int} (hj : 1 ≤ j ∧ j ≤ 3600) (hj2 : Int.tmod 3600 j = 0) (he : -3600 ≤ e1 ∧ e1 ≤ e2 ∧ e2 ≤ 3600) {f : Face} {sl : Int} (h : FaceOk f sl) :
    ev_dial_newWorks n j e1 e2 [f] = some (j, e1, e2, [f], [(f.1, f.2.1, f.2.2.1, f.2.2.2.1, f.2.2.2.2, sl)], 0) := by
  rw [ev_dial_newWorks, bind_of (wi1_dial (by omega)), cond_if, if_neg (by simp; omega), chk_of (by simp; omega), hj2, cond_if, if_neg (by simp), bind_of (ev_isSpanD (by omega) he), cond_if, if_neg (by simp), bind_of (wi1_dial (by omega)), cond_if, if_neg (by simp), ev_dial_newWorks_j0]
  have hf := ev_newFace hn h
  obtain ⟨m, rfl⟩ : ∃ m, n = m + 2 := ⟨n - 2, by omega⟩
  rw [ev_dial_newWorks_l1, cond_if, if_pos (by simp), idx_of (x := f) (by decide) (by rfl), bind_of hf, cond_if, if_neg (by simp), chk_of (by rfl), chk_of (by decide), ev_dial_newWorks_l1, cond_if, if_neg (by simp)]
  rfl
theorem ev_newLook {n : Nat} (hn : 10 < n) {j e1 e2 : Int} (hj : 1 ≤ j ∧ j ≤ 3600) (hj2 : Int.tmod 3600 j = 0) (he : -3600 ≤ e1 ∧ e1 ≤ e2 ∧ e2 ≤ 3600) {f : Face} {sl : Int} (h : FaceOk f sl) {at_ w1 w2 : Int} (ha : 0 ≤ at_ ∧ at_ ≤ 3155760000) (hw : -10000 ≤ w1 ∧ w1 ≤ w2 ∧ w2 ≤ 10000) :
    ev_dial_newLook n j e1 e2 [f] 0 at_ w1 w2 = some (j, e1, e2, [f], [(f.1, f.2.1, f.2.2.1, f.2.2.2.1, f.2.2.2.2, sl)], f.1, f.2.1, f.2.2.1, f.2.2.2.1, f.2.2.2.2, sl, at_, w1, w2, 0) := by
  have hwd : ev_dial_isWind n w1 w2 = some true := by rw [ev_dial_isWind, bind_of (ev_isSpanD (by omega) hw)]
  rw [ev_dial_newLook, bind_of (ev_newWorks hn hj hj2 he h), cond_if, if_neg (by simp), chk_of (by simp; decide), bind_of (wi1_dial (by omega)), cond_if, if_neg (by simp), bind_of (wi1_dial (by omega)), cond_if, if_neg (by simp; omega), bind_of hwd, cond_if, if_neg (by simp), idx_of (x := (f.1, f.2.1, f.2.2.1, f.2.2.2.1, f.2.2.2.2, sl)) (by decide) (by rfl)]
theorem ev_modulo {n : Nat} {a b : Int} (ha : -10000000000 ≤ a ∧ a ≤ 10000000000) (hb : 1 ≤ b ∧ b ≤ 100000) : ev_dial_modulo n a b = some (a % b) := by
  have h1 := Int.tmod_lt_of_pos a (show 0 < b by omega)
  have h2 : -b < Int.tmod a b := by
    have := Int.tmod_lt_of_pos (-a) (show 0 < b by omega)
    rw [Int.neg_tmod] at this; omega
  have h3 : a % b = (Int.tmod a b + b) % b := by
    rw [Int.add_emod_right, show Int.tmod a b = a - b * Int.tdiv a b by have := Int.mul_tdiv_add_tmod a b; omega, Int.sub_mul_emod_self_left]
  rw [ev_dial_modulo, chk_of (by simp; omega), chk_of (in64_of (by omega)), chk_of (by simp; omega), Int.tmod_eq_emod_of_nonneg (a := Int.tmod a b + b) (by omega), ← h3]
theorem ev_down {n : Nat} {a b : Int} (ha : -10000000000 ≤ a ∧ a ≤ 10000000000) (hb : 1 ≤ b ∧ b ≤ 100000) : ev_dial_down n a b = some (a - a % b) := by
  have h1 := Int.emod_nonneg a (show b ≠ 0 by omega)
  have h2 := Int.emod_lt_of_pos a (show 0 < b by omega)
  rw [ev_dial_down, bind_of (ev_modulo ha hb), chk_of (in64_of (by omega))]
/-- where the hands can be that are driven to a place -/
def forceP (f : Face) (d : Int) : Int := if d % 3600 < 1800 then f.2.2.2.1 else -f.2.2.2.1
def lagsP (f : Face) (sl d w1 w2 : Int) : Int × Int :=
  if f.2.2.2.2 < w1 + forceP f d then (0, 0) else if w2 + forceP f d < -f.2.2.2.2 then (sl, sl) else (0, sl)
def handsP (f : Face) (sl d w1 w2 : Int) : Int × Int := (d + f.1 - (lagsP f sl d w1 w2).2, d + f.2.1 - (lagsP f sl d w1 w2).1)
theorem lagsP_range {f : Face} {sl : Int} (h : FaceOk f sl) (d w1 w2 : Int) : 0 ≤ (lagsP f sl d w1 w2).1 ∧ (lagsP f sl d w1 w2).1 ≤ (lagsP f sl d w1 w2).2 ∧ (lagsP f sl d w1 w2).2 ≤ 3600 := by
  have := h.slack
  unfold lagsP
  split
  · simp
  · split <;> simp <;> omega
theorem ev_hands {n : Nat} {f : Face} {sl : Int} (h : FaceOk f sl) {d w1 w2 : Int} (hd : -10000 ≤ d ∧ d ≤ 5000000000) (hw : -10000 ≤ w1 ∧ w1 ≤ w2 ∧ w2 ≤ 10000) : ev_dial_face_hands n f.1 f.2.1 f.2.2.1 f.2.2.2.1 f.2.2.2.2 sl d w1 w2 = some (handsP f sl d w1 w2) := by
  have hw1 := h.weight
  have hfr := h.friction
  have hset := h.set
  have hl := lagsP_range h d w1 w2
  have hfo : ev_dial_face_force n f.1 f.2.1 f.2.2.1 f.2.2.2.1 f.2.2.2.2 sl d = some (forceP f d) := by
    rw [ev_dial_face_force, bind_of (ev_modulo (by omega) (by omega)), cond_if, forceP]
    by_cases hc : d % 3600 < 1800
    · rw [if_pos (by simpa using hc), if_pos hc]
    · rw [if_neg (by simpa using hc), if_neg hc, chk_of (in64_of (by omega))]; congr 1; omega
  have hfb : -10000 ≤ forceP f d ∧ forceP f d ≤ 10000 := by unfold forceP; split <;> omega
  have hlg : ev_dial_face_lags n f.1 f.2.1 f.2.2.1 f.2.2.2.1 f.2.2.2.2 sl d w1 w2 = some (lagsP f sl d w1 w2) := by
    rw [ev_dial_face_lags, bind_of hfo, chk_of (in64_of (by omega)), bind_of hfo, chk_of (in64_of (by omega)), cond_if, lagsP]
    by_cases hc : f.2.2.2.2 < w1 + forceP f d
    · rw [if_pos (by simpa using hc), if_pos hc]
    · rw [if_neg (by simpa using hc), if_neg hc, chk_of (in64_of (by omega)), cond_if]
      by_cases hc2 : w2 + forceP f d < -f.2.2.2.2
      · rw [if_pos (by simp; omega), if_pos hc2]
      · rw [if_neg (by simp; omega), if_neg hc2]
  rw [ev_dial_face_hands, bind_of hlg, chk_of (in64_of (by omega)), chk_of (in64_of (by omega)), chk_of (in64_of (by omega)), chk_of (in64_of (by omega))]
  rfl
/-- the place to which hands are driven -/
def drivenP (j x : Int) : Int := x - x % j
theorem ev_all {n : Nat} (hn : 10 < n) {j e : Int} (hj : 1 ≤ j ∧ j ≤ 3600) (he : -3600 ≤ e ∧ e ≤ 3600) {f : Face} {sl : Int} (h : FaceOk f sl) {at_ w1 w2 : Int} (ha : 0 ≤ at_ ∧ at_ ≤ 3155760000) (hw : -10000 ≤ w1 ∧ w1 ≤ w2 ∧ w2 ≤ 10000)
    {w4 : List Face} {w5 : List (Int × Int × List Link × Int × Int × Int)} {σ : Type} {yb : (Int × Int) → σ → Option (Bool × σ)} {y y' : σ} (hy : yb (handsP f sl (drivenP j (at_ + e)) w1 w2) y = some (true, y')) :
    ev_dial_look_all yb n j e e w4 w5 f.1 f.2.1 f.2.2.1 f.2.2.2.1 f.2.2.2.2 sl at_ w1 w2 y = some y' := by
  have m0 := Int.emod_nonneg (at_ + e) (show j ≠ 0 by omega)
  have m1 := Int.emod_lt_of_pos (at_ + e) (show 0 < j by omega)
  obtain ⟨d, hd⟩ : ∃ d, d = drivenP j (at_ + e) := ⟨_, rfl⟩
  have hd' : d = at_ + e - (at_ + e) % j := hd
  rw [← hd] at hy
  have hr : ev_dial_look_all_r0 yb n f.1 f.2.1 f.2.2.1 f.2.2.2.1 f.2.2.2.2 sl w1 w2 d y = some (0, y') := by
    rw [ev_dial_look_all_r0, bind_of (ev_hands h (by omega) hw), bind_of hy, cond_if, if_neg (by simp)]
  have hdr : ev_dial_works_driven n j e e w4 w5 at_ at_ = some (at_, at_, j, e, e, w4, w5) := by rw [ev_dial_works_driven]
  rw [ev_dial_look_all, bind_of hdr]
  have hloop : ev_dial_works_driven_1 (loopStep (ev_dial_look_all_r0 yb n f.1 f.2.1 f.2.2.1 f.2.2.2.1 f.2.2.2.2 sl w1 w2)) n (y, 0) at_ at_ j e e w4 w5 = some (y', 0) := by
    have hdn : ev_dial_down n (at_ + e) j = some d := by rw [ev_down (by omega) (by omega), hd']
    rw [ev_dial_works_driven_1, chk_of (in64_of (by omega)), bind_of hdn]
    obtain ⟨m, rfl⟩ : ∃ m, n = m + 2 := ⟨n - 2, by omega⟩
    rw [ev_dial_works_driven_1_l0, chk_of (in64_of (by omega)), cond_if, if_pos (by simp; omega), bind_of (loopStep_of hr), cond_if, if_neg (by simp), chk_of (in64_of (by omega)), ev_dial_works_driven_1_l0, chk_of (in64_of (by omega)), cond_if, if_neg (by simp; omega)]
  rw [bind_of hloop, cond_if, if_pos (by rfl)]
theorem handsP_range {f : Face} {sl : Int} (h : FaceOk f sl) {d w1 w2 : Int} (hd : -10000 ≤ d ∧ d ≤ 5000000000) : -30000 ≤ (handsP f sl d w1 w2).1 ∧ (handsP f sl d w1 w2).1 ≤ (handsP f sl d w1 w2).2 ∧ (handsP f sl d w1 w2).2 ≤ 5000010000 ∧ (handsP f sl d w1 w2).2 - (handsP f sl d w1 w2).1 ≤ 20000 := by
  have hl := lagsP_range h d w1 w2
  have hs := h.set
  unfold handsP
  simp only
  omega
theorem ev_Off {n : Nat} (hn : 10 < n) {j e : Int} (hj : 1 ≤ j ∧ j ≤ 3600) (hj2 : Int.tmod 3600 j = 0) (he : -3600 ≤ e ∧ e ≤ 3600) {f : Face} {sl : Int} (h : FaceOk f sl) {at_ w1 w2 : Int} (ha : 0 ≤ at_ ∧ at_ ≤ 3155760000) (hw : -10000 ≤ w1 ∧ w1 ≤ w2 ∧ w2 ≤ 10000) :
    ev_dial_Off n j e e [f] 0 at_ w1 w2 = some ((handsP f sl (drivenP j (at_ + e)) w1 w2).1 - at_, (handsP f sl (drivenP j (at_ + e)) w1 w2).2 - at_, 0) := by
  have m0 := Int.emod_nonneg (at_ + e) (show j ≠ 0 by omega)
  have m1 := Int.emod_lt_of_pos (at_ + e) (show 0 < j by omega)
  have hdr : -10000 ≤ drivenP j (at_ + e) ∧ drivenP j (at_ + e) ≤ 5000000000 := by unfold drivenP; omega
  obtain ⟨hh, hhe⟩ : ∃ q, q = handsP f sl (drivenP j (at_ + e)) w1 w2 := ⟨_, rfl⟩
  have hr := handsP_range h (w1 := w1) (w2 := w2) hdr
  rw [← hhe] at hr ⊢
  have hoff : ev_dial_look_off n j e e [f] [(f.1, f.2.1, f.2.2.1, f.2.2.2.1, f.2.2.2.2, sl)] f.1 f.2.1 f.2.2.1 f.2.2.2.1 f.2.2.2.2 sl at_ w1 w2 = some (hh.1 - at_, hh.2 - at_) := by
    have hy : loopStep (ev_dial_look_off_r0 n) (handsP f sl (drivenP j (at_ + e)) w1 w2) ([], 0) = some (true, ([hh], 0)) := by
      rw [loopStep_of (r := (0, [hh])) (by rw [ev_dial_look_off_r0, chk_of (by rfl), ← hhe]; rfl)]; rfl
    obtain ⟨m, rfl⟩ : ∃ m, n = m + 2 := ⟨n - 2, by omega⟩
    have hmin : ∀ g, ev_slices_MinFunc_Lapi_Span_api_Span (m + 2) [hh] g = some hh := fun g => by
      rw [ev_slices_MinFunc_Lapi_Span_api_Span, cond_if, if_neg (by simp), ev_slices_MinFunc_Lapi_Span_api_Span_j0, idx_of (x := hh) (by decide) (by rfl), ev_slices_MinFunc_Lapi_Span_api_Span_l1, cond_if, if_neg (by simp)]
    have hmax : ∀ g, ev_slices_MaxFunc_Lapi_Span_api_Span (m + 2) [hh] g = some hh := fun g => by
      rw [ev_slices_MaxFunc_Lapi_Span_api_Span, cond_if, if_neg (by simp), ev_slices_MaxFunc_Lapi_Span_api_Span_j0, idx_of (x := hh) (by decide) (by rfl), ev_slices_MaxFunc_Lapi_Span_api_Span_l1, cond_if, if_neg (by simp)]
    rw [ev_dial_look_off, bind_of (ev_all hn hj he h ha hw hy), cond_if, if_pos (by rfl), bind_of (hmin _), chk_of (in64_of (by omega)), bind_of (hmax _), chk_of (in64_of (by omega))]
  rw [ev_dial_Off, bind_of (ev_newLook hn hj hj2 ⟨he.1, Int.le_refl _, he.2⟩ h ha hw), cond_if, if_neg (by simp), bind_of hoff]
/-- what hands show -/
def spansP (h : Int × Int) : List (Int × Int) :=
  if 43200 ≤ h.1 % 43200 + (h.2 - h.1) then [(h.1 % 43200, min 43199 (h.1 % 43200 + (h.2 - h.1))), (0, h.1 % 43200 + (h.2 - h.1) - 43200)] else [(h.1 % 43200, min 43199 (h.1 % 43200 + (h.2 - h.1)))]
def joinP : List (Int × Int) → List (Int × Int) → List (Int × Int)
  | acc, [] => acc
  | acc, x :: xs => match acc[acc.length - 1]? with
    | some z => if x.1 ≤ z.2 + 1 then joinP (acc.set (acc.length - 1) (z.1, max z.2 x.2)) xs else joinP (acc ++ [x]) xs
    | none => joinP (acc ++ [x]) xs
def bySpan (x y : Int × Int) : Int := x.1 - y.1
theorem ev_joined {n : Nat} (hn : 20 < n) {l : List (Int × Int)} (hl : l.length ≤ 12) (hb : ∀ x ∈ l, (-1000000 ≤ x.1 ∧ x.1 ≤ 1000000) ∧ (-1000000 ≤ x.2 ∧ x.2 ≤ 1000000)) :
    ∃ l', ev_dial_joined n l = some (joinP [] (isort bySpan l), l') := by
  have hs := so_api_Span (n := n) (cmp := fun a => ev_dial_joined_1 n a.1 a.2.1 a.2.2.1 a.2.2.2) (c := bySpan) (Pd := fun x => (-1000000 ≤ x.1 ∧ x.1 ≤ 1000000) ∧ (-1000000 ≤ x.2 ∧ x.2 ≤ 1000000)) (fun x y hx hy => by
    rw [ev_dial_joined_1, chk_of (in64_of (by simp only; omega))]; rfl) l (by omega) hl hb
  rw [ev_dial_joined, bind_of hs]
  have hb' : ∀ x ∈ isort bySpan l, (-1000000 ≤ x.1 ∧ x.1 ≤ 1000000) ∧ (-1000000 ≤ x.2 ∧ x.2 ≤ 1000000) := fun x hx => hb x ((isort_perm bySpan l).mem_iff.1 hx)
  obtain ⟨r, hr⟩ : ∃ r, r = isort bySpan l := ⟨_, rfl⟩
  have hrl : r.length ≤ 12 := by rw [hr, isort_length]; exact hl
  rw [← hr] at hb' ⊢
  have key : ∀ (k m i : Nat) (acc : List (Int × Int)), i + k = r.length → k < m → acc.length ≤ i → (∀ x ∈ acc, -1000000 ≤ x.2 ∧ x.2 ≤ 1000000) → ev_dial_joined_l0 n r m acc (i : Int) r = some (joinP acc (r.drop i), r) := by
    intro k
    induction k with
    | zero =>
      intro m i acc hi hm hal hacc
      cases m with
      | zero => omega
      | succ m => rw [ev_dial_joined_l0, cond_if, if_neg (by simp; omega), List.drop_eq_nil_of_le (by omega)]; rfl
    | succ k ih =>
      intro m i acc hi hm hal hacc
      cases m with
      | zero => omega
      | succ m =>
        have hlt : i < r.length := by omega
        obtain ⟨x, hx⟩ : ∃ x, x = r[i] := ⟨_, rfl⟩
        have hget : r[i]? = some x := by rw [hx, List.getElem?_eq_getElem hlt]
        have hxb := hb' x (List.mem_of_getElem? hget)
        have hnext : ∀ acc' : List (Int × Int), acc'.length ≤ i + 1 → (∀ x ∈ acc', -1000000 ≤ x.2 ∧ x.2 ≤ 1000000) → ev_dial_joined_l0 n r m acc' ((i : Int) + 1) r = some (joinP acc' (r.drop (i + 1)), r) := fun acc' h1 h2 => by
          rw [← ih m (i + 1) acc' (by omega) (by omega) h1 h2]; congr 1
        have happ := hnext (acc ++ [x]) (by simp; omega) (fun z hz => by
          rcases List.mem_append.1 hz with hz | hz
          · exact hacc z hz
          · rw [List.mem_singleton] at hz; subst hz; exact hxb.2)
        rw [ev_dial_joined_l0, cond_if, if_pos (by simp; omega), idx_nat hget, chk_of (in64_of (by omega)), cond_if, List.drop_eq_getElem_cons hlt, ← hx]
        by_cases h0 : acc.length = 0
        · have : acc = [] := List.length_eq_zero_iff.1 h0
          subst this
          rw [if_neg (by simp), chk_of (by rfl), chk_of (in64_of (by omega))]
          exact happ
        · obtain ⟨z, hz⟩ : ∃ z, acc[acc.length - 1]? = some z := ⟨_, List.getElem?_eq_getElem (by omega)⟩
          have hzb := hacc z (List.mem_of_getElem? hz)
          have et : ((acc.length : Int) - 1).toNat = acc.length - 1 := by omega
          rw [if_pos (by simp; omega), idx_of (x := z) (by omega) (by rw [et]; exact hz), chk_of (in64_of (by omega)), cond_if, et]
          simp only [joinP, hz]
          by_cases hj : x.1 ≤ z.2 + 1
          · rw [if_pos (by simpa using hj), if_pos hj, chk_of (in64_of (by omega))]
            refine hnext _ (by simp; omega) (fun w hw => ?_)
            rcases List.mem_or_eq_of_mem_set hw with hw | rfl
            · exact hacc w hw
            · simp only; omega
          · rw [if_neg (by simpa using hj), if_neg hj, chk_of (room_iff.2 (by simp; omega)), chk_of (in64_of (by omega))]
            exact happ
  exact ⟨r, by simpa using key r.length n 0 [] (by omega) (by omega) (by simp) (by simp)⟩
theorem ev_Shows {n : Nat} (hn : 20 < n) {j e : Int} (hj : 1 ≤ j ∧ j ≤ 3600) (hj2 : Int.tmod 3600 j = 0) (he : -3600 ≤ e ∧ e ≤ 3600) {f : Face} {sl : Int} (h : FaceOk f sl) {at_ w1 w2 : Int} (ha : 0 ≤ at_ ∧ at_ ≤ 3155760000) (hw : -10000 ≤ w1 ∧ w1 ≤ w2 ∧ w2 ≤ 10000) :
    ev_dial_Shows n j e e [f] 0 at_ w1 w2 = some (joinP [] (isort bySpan (spansP (handsP f sl (drivenP j (at_ + e)) w1 w2))), 0) := by
  have m0 := Int.emod_nonneg (at_ + e) (show j ≠ 0 by omega)
  have m1 := Int.emod_lt_of_pos (at_ + e) (show 0 < j by omega)
  have hdr : -10000 ≤ drivenP j (at_ + e) ∧ drivenP j (at_ + e) ≤ 5000000000 := by unfold drivenP; omega
  obtain ⟨hh, hhe⟩ : ∃ q, q = handsP f sl (drivenP j (at_ + e)) w1 w2 := ⟨_, rfl⟩
  have hr := handsP_range h (w1 := w1) (w2 := w2) hdr
  rw [← hhe] at hr ⊢
  have k0 := Int.emod_nonneg hh.1 (show (43200 : Int) ≠ 0 by decide)
  have k1 := Int.emod_lt_of_pos hh.1 (show (0 : Int) < 43200 by decide)
  have hy : loopStep (ev_dial_Shows_r0 n) (handsP f sl (drivenP j (at_ + e)) w1 w2) ([], 0) = some (true, (spansP hh, 0)) := by
    rw [loopStep_of (r := (0, spansP hh)) (by
      rw [← hhe, ev_dial_Shows_r0, bind_of (ev_modulo (by omega) (by omega)), chk_of (in64_of (by omega)), chk_of (in64_of (by omega)), chk_of (by rfl), chk_of (in64_of (by omega)), chk_of (in64_of (by omega)), cond_if, spansP]
      by_cases hc : 43200 ≤ hh.1 % 43200 + (hh.2 - hh.1)
      · rw [if_pos (by simp; omega), if_pos hc, chk_of (by rfl)]; rfl
      · rw [if_neg (by simp; omega), if_neg hc]; rfl)]
    rfl
  have hsb : ∀ x ∈ spansP hh, (-1000000 ≤ x.1 ∧ x.1 ≤ 1000000) ∧ (-1000000 ≤ x.2 ∧ x.2 ≤ 1000000) := by
    intro x hx
    unfold spansP at hx
    split at hx
    · simp only [List.mem_cons, List.not_mem_nil, or_false] at hx
      rcases hx with rfl | rfl <;> simp only <;> omega
    · simp only [List.mem_cons, List.not_mem_nil, or_false] at hx
      subst hx; simp only; omega
  have hsl : (spansP hh).length ≤ 12 := by unfold spansP; split <;> simp
  obtain ⟨l', hjn⟩ := ev_joined hn hsl hsb
  rw [ev_dial_Shows, bind_of (ev_newLook (by omega) hj hj2 ⟨he.1, Int.le_refl _, he.2⟩ h ha hw), cond_if, if_neg (by simp), bind_of (ev_all (by omega) hj he h ha hw hy), cond_if, if_pos (by rfl), bind_of hjn]
end Go.Proofs.Ytgkoldcmbcbbpaa.Sy
