/- PT: texts joined into one: StillPl, EvStill, TruthPl, EvTruth. -/
import Derived.Test.YtpjlihkpnhamlaaLawPulseAgainM1
import Derived.Test.YtpjlihkpnhamlaaLawPulseAgainM2
import Derived.Test.YtpjlihkpnhamlaaLawPulseAgainM3
import Derived.Test.YtpjlihkpnhamlaaLawPulseAgainM4
import Derived.Test.YtpjlihkpnhamlaaLawPulseAgainM5

/- Runs without faults, runs in two parts, plain lines. -/
section
set_option linter.unusedSimpArgs false
set_option linter.unusedVariables false
namespace Go.Proofs.Ytpjlihkpnhamlaa
namespace Pu
theorem run_free {l : Ln} {f : Int} (hl : l.ok) (f0 : 0 ≤ f) (m : Nat) : (runN l f [] (start l (f % 720) f) m).s = (f + m) % 720 := by
  have := right_run (l := l) (f := f) (fs := []) (d := start l (f % 720) f) hl f0 (m := 0) (by simpa [runN] using right_start) (by simp) m
  have h := this.1
  simpa using h
theorem back_free {l : Ln} {f : Int} (hl : l.ok) (f0 : 0 ≤ f ∧ f ≤ 100000) : backVal l f [] = (f, 0) := by
  have hc : chkFs l (f + 5000) f [] = true := rfl
  have he := ok_e hl
  unfold backVal
  rw [if_neg (by rw [err_of_ok hl]; simp), if_neg (by simp [btw_iff.2 f0]), if_neg (by rw [faults_ok hc (by simp)]; simp)]
  simp only [lastF, back_eq hc]
  have hle := back_le (l := l) (f := f) (last := f) (B := f) (fs := []) (d := start l (f % 720) f) (Int.le_refl _) (fun k _ => run_free hl f0.1 k) (f + 3 * l.e - f).toNat
  have hge := (backR_btw (l := l) (f := f) (fs := []) (d := start l (f % 720) f) (last := f) (Int.le_refl _) (f + 3 * l.e - f).toNat).1
  rw [show backR l f [] (start l (f % 720) f) f (f + 3 * l.e - f).toNat = f by omega, if_neg (by omega)]
theorem runN_add {l : Ln} {f : Int} {fs : List (Int × Int)} {d : Dl} (m : Nat) : ∀ j : Nat, runN l f fs d (m + j) = runN l (f + m) fs (runN l f fs d m) j
  | 0 => rfl
  | j + 1 => by
    rw [show m + (j + 1) = m + j + 1 by omega, runN, runN, runN_add m j]
    rw [show f + ((m + j : Nat) : Int) + 1 = f + m + j + 1 by omega]
theorem runN_congr {l : Ln} {f : Int} {fs gs : List (Int × Int)} {d : Dl} : ∀ m : Nat, (∀ t, f < t → t ≤ f + m → movesAt fs t = movesAt gs t) → runN l f fs d m = runN l f gs d m
  | 0, _ => rfl
  | m + 1, h => by rw [runN, runN, h _ (by omega) (by omega), runN_congr m (fun t h1 h2 => h t h1 (by omega))]
theorem moves_filter {fs : List (Int × Int)} {p : Int × Int → Bool} {t : Int} (h : ∀ x : Int × Int, x.1 = t → p x = true) : movesAt (fs.filter p) t = movesAt fs t := by
  unfold movesAt
  rw [List.find?_filter]
  congr 1
  congr 1
  funext x
  cases e : x.1 == t with
  | false => simp
  | true => simp [h x (by simpa using e)]
theorem chk_low {l : Ln} {U M : Int} : ∀ {fs : List (Int × Int)} {f g : Int}, chkFs l U f fs = true → g ≤ f → chkFs l M g (fs.filter (fun x => decide (x.1 ≤ M))) = true
  | [], _, _, _, _ => rfl
  | x :: tl, f, g, h, hg => by
    rw [chkFs] at h
    simp only [Bool.and_eq_true, Bool.or_eq_true, decide_eq_true_eq, Bool.not_eq_true'] at h
    obtain ⟨⟨⟨h1, h2⟩, h3⟩, h4⟩ := h
    by_cases hx : x.1 ≤ M
    · rw [List.filter_cons_of_pos (by simpa using hx), chkFs, chk_low h4 (Int.le_refl _)]
      simp only [Bool.and_true, Bool.and_eq_true, Bool.or_eq_true, decide_eq_true_eq, Bool.not_eq_true']
      exact ⟨⟨by omega, h2⟩, h3⟩
    · rw [List.filter_cons_of_neg (by simpa using hx)]
      exact chk_low h4 (by omega)
theorem chk_high {l : Ln} {U M : Int} : ∀ {fs : List (Int × Int)} {f g : Int}, chkFs l U f fs = true → g ≤ max f M → chkFs l U g (fs.filter (fun x => !decide (x.1 ≤ M))) = true
  | [], _, _, _, _ => rfl
  | x :: tl, f, g, h, hg => by
    rw [chkFs] at h
    simp only [Bool.and_eq_true, Bool.or_eq_true, decide_eq_true_eq, Bool.not_eq_true'] at h
    obtain ⟨⟨⟨h1, h2⟩, h3⟩, h4⟩ := h
    by_cases hx : x.1 ≤ M
    · rw [List.filter_cons_of_neg (by simpa using hx)]
      exact chk_high h4 (by omega)
    · rw [List.filter_cons_of_pos (by simpa using hx), chkFs, chk_high h4 (by omega)]
      simp only [Bool.and_true, Bool.and_eq_true, Bool.or_eq_true, decide_eq_true_eq, Bool.not_eq_true']
      exact ⟨⟨by omega, h2⟩, h3⟩
/-- a run in two parts, the second one from a multiple on -/
theorem run_split {l : Ln} {f M sh : Int} {fs : List (Int × Int)} (hr : l.r ≠ 0) (hm : M % l.e = 0) (a b : Nat) (ha : M = f + a) :
    (runN l M (fs.filter (fun x => !decide (x.1 ≤ M))) (start l (runN l f (fs.filter (fun x => decide (x.1 ≤ M))) (start l sh f) a).s M) b).s = (runN l f fs (start l sh f) (a + b)).s := by
  rw [runN_add a b, ← ha]
  rw [runN_congr (fs := fs.filter fun x => !decide (x.1 ≤ M)) (gs := fs) b fun t h1 h2 => moves_filter fun x hx => by simp; omega]
  rw [runN_congr (fs := fs.filter fun x => decide (x.1 ≤ M)) (gs := fs) a fun t h1 h2 => moves_filter fun x hx => by simp; omega]
  have hst : start l (runN l f fs (start l sh f) a).s M = runN l f fs (start l sh f) a := by
    have hk : (runN l f fs (start l sh f) a).k = 0 := by
      cases a with
      | zero => simp only [runN, start, if_neg hr]; rw [show f = M by omega]; exact hm
      | succ a =>
        have hL : isLong l (f + a + 1) = true := by
          rw [show f + a + 1 = M by omega]
          simp [isLong, hr, hm]
        rw [runN, imp, if_pos hL]; exact cor_k _ _
    generalize runN l f fs (start l sh f) a = d at *
    obtain ⟨s, k⟩ := d
    simp only at hk
    subst hk
    simp [start, if_neg hr, hm]
  rw [hst]
/-- a plain line counts -/
theorem run_plain {f sh : Int} {fs : List (Int × Int)} (hs : 0 ≤ sh ∧ sh < 720) : ∀ m : Nat, (runN ⟨0, 0, 0⟩ f fs (start ⟨0, 0, 0⟩ sh f) m).s = (sh + mvN fs f m) % 720
  | 0 => by simp [runN, start, mvN]; omega
  | m + 1 => by
    have h1 := run_plain (f := f) (fs := fs) hs m
    have hL : isLong ⟨0, 0, 0⟩ (f + m + 1) = false := by simp [isLong]
    rw [runN, imp, hL, if_neg (by simp), mvN]
    have hmv : ∀ d : Dl, (mv ⟨0, 0, 0⟩ false d).s = (d.s + 1) % 720 := fun d => by simp [mv]
    rcases moves3 fs (f + m + 1) with h | h | h <;> rw [h] <;> simp only [mvs, hmv, h1] <;> omega
theorem mvN_nonneg (fs : List (Int × Int)) (f : Int) : ∀ m : Nat, 0 ≤ mvN fs f m
  | 0 => by simp [mvN]
  | m + 1 => by rw [mvN]; have := mvN_nonneg fs f m; omega
end Pu
end Go.Proofs.Ytpjlihkpnhamlaa
end

/- STILL: what the law computes is true. -/
section
set_option linter.unusedSimpArgs false
set_option linter.unusedVariables false
namespace Go.Proofs.Ytpjlihkpnhamlaa.Sy
open Go.RowKit

theorem wf16 {z : Int} : (Lit.int .u16 z).wf = true ↔ 0 ≤ z ∧ z ≤ 65535 := by
  simp only [Lit.wf, Bool.and_eq_true, decide_eq_true_eq, show IntKind.u16.min = 0 from rfl, show IntKind.u16.max = 65535 from rfl]
theorem st_j3 {n : Nat} {f sh u : Int} {zs : List Int} (h0 : 0 ≤ f ∧ f ≤ 65535) (h1 : 0 ≤ sh) (h2 : 0 ≤ u) (hz : ∀ z ∈ zs, 0 ≤ z ∧ z ≤ 255) (hm : zs.length ≤ 9223372036854775807) (hn : zs.length + 1000 < n) :
    ev_law09_PulseStill_j3 n f u sh zs = some true := by
  unfold ev_law09_PulseStill_j3
  rw [Int.tmod_eq_emod_of_nonneg h2, Int.tmod_eq_emod_of_nonneg h1]
  have hl : (Pu.Ln.mk 0 0 0).ok := .inl ⟨rfl, rfl, rfl⟩
  obtain ⟨U, hU⟩ : ∃ U, U = f + u % 300 := ⟨_, rfl⟩
  rw [← hU]
  rw [bind_of (ev_list hl h0.1 (by omega) (by omega) hz (by omega) hm)]
  have hchk : Pu.chkFs ⟨0, 0, 0⟩ U f (Pu.lst ⟨0, 0, 0⟩ U zs 0 f) = true := Pu.lst_chk (Int.le_refl _)
  have h20 : (Pu.lst ⟨0, 0, 0⟩ U zs 0 f).length ≤ 20 := Pu.lst_len (n := 0) (by omega)
  generalize Pu.lst ⟨0, 0, 0⟩ U zs 0 f = fs at *
  rw [bind_of (ev_counts (by omega) (by omega)), bind_of (ev_run (by omega) (by omega) (by omega) (by omega)), Pu.run_val hl (by omega) (by omega) (by omega) hchk h20]
  rw [Pu.run_plain (by omega)]
  obtain ⟨hs1, hs2⟩ := Pu.chk_sorted hchk
  have hc := Pu.mvN_count (f := f) (m := (U - f).toNat) hs1 (fun x hx => by have := hs2 x hx; omega)
  have hnn := Pu.mvN_nonneg fs f (U - f).toNat
  rw [hc] at hnn ⊢
  have hcA := Pu.cnt_nonneg fs
  have hcl := Pu.cnt_len fs
  rw [cond_if, if_pos (by simp), chk_of (in64_of (by omega)), chk_of (in64_of (by omega)), chk_of (in64_of (by omega)), chk_of (in64_of (by omega)), cond_if, if_pos]
  · rfl
  · rw [Int.tmod_eq_emod_of_nonneg (by omega)]
    simp only [beq_iff_eq]
    congr 1
    omega
theorem st_l1 {n : Nat} {f sh u r e k M : Int} {zs : List Int} {xs : List (Int × Int)} {all : Int × Int} (h0 : 0 ≤ f ∧ f ≤ 65535) (h1 : 0 ≤ sh) (h2 : 0 ≤ u) (hz : ∀ z ∈ zs, 0 ≤ z ∧ z ≤ 255) (hm : zs.length ≤ 9223372036854775807) (hn : zs.length + 1000 < n)
    (hl : (Pu.Ln.mk r e k).ok) (hr : r ≠ 0) (hx : xs.length ≤ 20) (hc : Pu.chkFs ⟨r, e, k⟩ (f + u % 300) f xs = true) (hM : M = (f + (f + u % 300)) / 2 / e * e) (hfM : f ≤ M)
    (hall : all = ((Pu.runN ⟨r, e, k⟩ f xs (Pu.start ⟨r, e, k⟩ (sh % 720) f) (u % 300).toNat).s, 0)) :
    ∀ (m i : Nat), i ≤ xs.length → xs.length < m + i →
      ev_law09_PulseStill_l1 n f u (r, e, k) sh all m i zs r e k xs ((xs.take i).filter fun x => decide (x.1 ≤ M)) ((xs.take i).filter fun x => !decide (x.1 ≤ M)) = some true := by
  have hl' := hl
  unfold Pu.Ln.ok at hl'
  dsimp only at hl'
  have hMU : M ≤ f + u % 300 := by
    have h3 : (f + (f + u % 300)) / 2 / e * e ≤ (f + (f + u % 300)) / 2 := Int.ediv_mul_le _ (by omega)
    omega
  have hdiv : Int.tdiv (Int.tdiv (f + (f + Int.tmod u 300)) 2) e * e = M := by
    rw [Int.tmod_eq_emod_of_nonneg h2, Int.tdiv_eq_ediv_of_nonneg (by omega : 0 ≤ f + (f + u % 300)), Int.tdiv_eq_ediv_of_nonneg (by omega : 0 ≤ (f + (f + u % 300)) / 2), hM]
  have hMe : M % e = 0 := by rw [hM]; exact Int.mul_emod_left _ _
  intro m
  induction m with
  | zero => intro i h3 h4; omega
  | succ m ih =>
    intro i h3 h4
    rw [ev_law09_PulseStill_l1, cond_if]
    simp only [hdiv]
    rcases Nat.lt_or_ge i xs.length with hi | hi
    · have hih := ih (i + 1) (by omega) (by omega)
      rw [List.take_succ_eq_append_getElem hi, List.filter_append, List.filter_append] at hih
      have hl1 := List.length_filter_le (fun x : Int × Int => decide (x.1 ≤ M)) (xs.take i)
      have hl2 := List.length_filter_le (fun x : Int × Int => !decide (x.1 ≤ M)) (xs.take i)
      rw [List.length_take] at hl1 hl2
      rw [if_pos (by simp; omega), idx_nat (List.getElem?_eq_getElem hi), cond_if]
      by_cases hx1 : xs[i].1 ≤ M
      · rw [List.filter_cons_of_pos (by simpa using hx1), List.filter_cons_of_neg (by simpa using hx1), List.filter_nil, List.filter_nil, List.append_nil] at hih
        rw [if_pos (by simpa using hx1), chk_of (room_iff.2 (by simp only [List.length_singleton]; omega)), chk_of (in64_of (by omega))]
        exact hih
      · rw [List.filter_cons_of_neg (by simpa using hx1), List.filter_cons_of_pos (by simpa using hx1), List.filter_nil, List.filter_nil, List.append_nil] at hih
        rw [if_neg (by simpa using hx1), chk_of (room_iff.2 (by simp only [List.length_singleton]; omega)), chk_of (in64_of (by omega))]
        exact hih
    · rw [if_neg (by simp; omega), List.take_of_length_le hi]
      have hl1 := List.length_filter_le (fun x : Int × Int => decide (x.1 ≤ M)) xs
      have hl2 := List.length_filter_le (fun x : Int × Int => !decide (x.1 ≤ M)) xs
      rw [Int.tmod_eq_emod_of_nonneg h1, Int.tmod_eq_emod_of_nonneg h2]
      rw [bind_of (ev_run (by omega) (by omega) (by omega) (by omega)), Pu.run_val hl (by omega) (by omega) (by omega) (Pu.chk_low hc (Int.le_refl _)) (by omega)]
      have hsok := (Pu.runN_ok (l := ⟨r, e, k⟩) (f := f) (fs := xs.filter fun x => decide (x.1 ≤ M)) (Pu.start_ok (l := ⟨r, e, k⟩) (s := sh % 720) (t := f) hl (by omega) (by omega) h0.1) (by omega) (M - f).toNat)
      unfold Pu.Dl.ok at hsok
      rw [bind_of (ev_run (by omega) (by omega) (by omega) (by omega)), Pu.run_val hl (by omega) (by dsimp only; omega) (by omega) (Pu.chk_high hc (by omega)) (by omega)]
      have hsp := Pu.run_split (l := ⟨r, e, k⟩) (f := f) (M := M) (sh := sh % 720) (fs := xs) hr hMe (M - f).toNat (f + u % 300 - M).toNat (by omega)
      rw [show (M - f).toNat + (f + u % 300 - M).toNat = (u % 300).toNat by omega] at hsp
      simp only [hsp, hall]
      rw [cond_if, if_neg (by simp), cond_if, if_neg (by simp), cond_if, if_neg (by simp)]
      exact st_j3 h0 h1 h2 hz hm hn
theorem ev_still {a b c f sh u : Int} {zs : List Int} (ha : 0 ≤ a ∧ a ≤ 255) (hb : 0 ≤ b ∧ b ≤ 255) (hc : 0 ≤ c ∧ c ≤ 255) (hf : 0 ≤ f ∧ f ≤ 65535) (hs : 0 ≤ sh ∧ sh ≤ 65535) (hu : 0 ≤ u ∧ u ≤ 65535) (hz : ∀ z ∈ zs, 0 ≤ z ∧ z ≤ 255) (hm : zs.length ≤ 9223372036854775807) :
    ev_law09_PulseStill (zs.length + 10000) a b c f sh u zs = some true := by
  obtain ⟨n, hn⟩ : ∃ n, n = zs.length + 10000 := ⟨_, rfl⟩
  rw [← hn]
  have hl := Pu.wL_ok (r := a) (e := b) (c := c) hc.1
  have hE := Pu.wE_btw b
  have hr1 : (Pu.wL a b c).r = 1 + a % 3 := rfl
  have he1 : (Pu.wL a b c).e = Pu.wE b := rfl
  unfold ev_law09_PulseStill
  rw [bind_of (ev_wired ha hb hc)]
  obtain ⟨r, hr⟩ : ∃ r, r = (Pu.wL a b c).r := ⟨_, rfl⟩
  obtain ⟨e, he⟩ : ∃ e, e = (Pu.wL a b c).e := ⟨_, rfl⟩
  obtain ⟨k, hk⟩ : ∃ k, k = (Pu.wL a b c).c := ⟨_, rfl⟩
  have hl' : (Pu.Ln.mk r e k).ok := by rw [hr, he, hk]; exact hl
  simp only [← hr, ← he, ← hk]
  rw [hr1] at hr; rw [he1] at he
  clear hl hr1 he1 hk
  rw [← he] at hE
  have hrn : r ≠ 0 := by omega
  have hb3 : -1000 ≤ k ∧ k ≤ 1000 := by unfold Pu.Ln.ok at hl'; dsimp only at hl'; omega
  have hb1 : -1000 ≤ r ∧ r ≤ 1000 := by omega
  have hb2 : -1000 ≤ e ∧ e ≤ 1000 := by omega
  clear hr he
  simp only [Int.tmod_eq_emod_of_nonneg hu.1, Int.tmod_eq_emod_of_nonneg hf.1]
  rw [chk_of (in64_of (by omega)), chk_of (in64_of (by omega)), chk_of (in64_of (by omega)), chk_of (in64_of (by omega))]
  rw [bind_of (ev_run (by simp) hb1 hb2 hb3), Pu.run_val hl' (by omega) (by omega) (by omega) rfl (by simp), Pu.run_free hl' hf.1]
  rw [bind_of (ev_back (by simp) hb1 hb2 hb3), Pu.back_free hl' (by omega)]
  rw [Int.tmod_eq_emod_of_nonneg (by omega)]
  rw [cond_if, if_neg (by simp), cond_if, if_neg (by simp), cond_if, if_neg (by simp; omega), cond_if, if_neg (by simp)]
  unfold ev_law09_PulseStill_j0
  simp only [Int.tmod_eq_emod_of_nonneg hu.1, Int.tmod_eq_emod_of_nonneg hs.1]
  rw [bind_of (ev_list hl' hf.1 (by omega) (by omega) hz (by omega) hm)]
  have hchk : Pu.chkFs ⟨r, e, k⟩ (f + u % 300) f (Pu.lst ⟨r, e, k⟩ (f + u % 300) zs 0 f) = true := Pu.lst_chk (Int.le_refl _)
  have h20 : (Pu.lst ⟨r, e, k⟩ (f + u % 300) zs 0 f).length ≤ 20 := Pu.lst_len (n := 0) (by omega)
  generalize Pu.lst ⟨r, e, k⟩ (f + u % 300) zs 0 f = fs at *
  rw [bind_of (ev_faults (by omega)), bind_of (ev_run (by omega) hb1 hb2 hb3), Pu.run_val hl' (by omega) (by omega) (by omega) hchk h20]
  have hMle : (f + (f + u % 300)) / 2 / e * e ≤ (f + (f + u % 300)) / 2 := Int.ediv_mul_le _ (by omega)
  have hM0 : 0 ≤ (f + (f + u % 300)) / 2 / e := Int.ediv_nonneg (by omega) (by omega)
  have hM1 : (f + (f + u % 300)) / 2 / e ≤ (f + (f + u % 300)) / 2 := Int.ediv_le_self _ (by omega)
  have hM2 : 0 ≤ (f + (f + u % 300)) / 2 / e * e := Int.mul_nonneg hM0 (by omega)
  rw [Int.tdiv_eq_ediv_of_nonneg (by omega : 0 ≤ f + (f + u % 300)), Int.tdiv_eq_ediv_of_nonneg (by omega : 0 ≤ (f + (f + u % 300)) / 2)]
  rw [chk_of (in64_of (by omega)), chk_of (in64_of (by omega)), chk_of (by simp; omega), chk_of (in64_of (by omega)), chk_of (in64_of (by omega))]
  rw [cond_if, if_neg (by simp), cond_if]
  by_cases hfM : f ≤ (f + (f + u % 300)) / 2 / e * e
  · rw [if_pos (by simpa using hfM)]
    have := st_l1 (n := n) (zs := zs) hf hs.1 hu.1 hz hm (by omega) hl' hrn h20 hchk rfl hfM rfl n 0 (by omega) (by omega)
    rw [show f + u % 300 - f = u % 300 by omega]
    exact this
  · rw [if_neg (by simpa using hfM)]
    exact st_j3 hf hs.1 hu.1 hz hm (by omega)
theorem still_ev {w1 : Int} {w2 : Int} {w3 : Int} {at_4 : Int} {at_5 : Int} {at_6 : Int} {by_7 : List Int} (h0 : (Lit.int .u8 w1).wf = true ∧ (Lit.int .u8 w2).wf = true ∧ (Lit.int .u8 w3).wf = true) (h1 : (Lit.int .u16 at_4).wf = true ∧ (Lit.int .u16 at_5).wf = true ∧ (Lit.int .u16 at_6).wf = true) (h2 : (by_7.length ≤ maxLen ∧ ∀ el5 ∈ by_7, (Lit.int .u8 el5).wf = true)) :
    ∃ n, ev_law09_PulseStill n w1 w2 w3 at_4 at_5 at_6 by_7 = some true :=
  ⟨_, ev_still (wf8.1 h0.1) (wf8.1 h0.2.1) (wf8.1 h0.2.2) (wf16.1 h1.1) (wf16.1 h1.2.1) (wf16.1 h1.2.2) (fun z hz => wf8.1 (h2.2 z hz)) h2.1⟩
end Go.Proofs.Ytpjlihkpnhamlaa.Sy
end

/- What Fewest says of true faults: plain. -/
section
set_option linter.unusedSimpArgs false
set_option linter.unusedVariables false
namespace Go.Proofs.Ytpjlihkpnhamlaa
namespace Pu
theorem FewSpec.uniq {R : Dl → Int → Prop} {n e n' e' : Int} (h : FewSpec R n e) (h' : FewSpec R n' e') : (n, e) = (n', e') := by
  rcases h with ⟨rfl, h1, ⟨d, h2⟩, h3⟩ | ⟨rfl, rfl, h4⟩ <;> rcases h' with ⟨rfl, g1, ⟨d', g2⟩, g3⟩ | ⟨rfl, rfl, g4⟩
  · have := h3 _ _ g2
    have := g3 _ _ h2
    rw [show n = n' by omega]
  · have := g4 _ _ h2; omega
  · have := h4 _ _ g2; omega
  · rfl
theorem FewOut.uniq {l : Ln} {sh f : Int} {fs : List (Int × Int)} {n e n' e' : Int} (h : FewOut l sh f fs n e) (h' : FewOut l sh f fs n' e') : (n, e) = (n', e') := by
  unfold FewOut at h h'
  split at h
  · rename_i q; rw [if_pos q] at h'; rw [h.1, h.2, h'.1, h'.2]
  rename_i q1; rw [if_neg q1] at h'
  split at h
  · rename_i q; rw [if_pos q] at h'; rw [h.1, h.2, h'.1, h'.2]
  rename_i q2; rw [if_neg q2] at h'
  split at h
  · rename_i q; rw [if_pos q] at h'; rw [h.1, h.2, h'.1, h'.2]
  rename_i q3; rw [if_neg q3] at h'
  split at h
  · rename_i q; rw [if_pos q] at h'; rw [h.1, h.2, h'.1, h'.2]
  rename_i q4; rw [if_neg q4] at h'
  exact h.uniq h'
/-- how many faults in m minutes -/
def costN (fs : List (Int × Int)) (f : Int) : Nat → Int
  | 0 => 0
  | m + 1 => costN fs f m + if movesAt fs (f + m + 1) = 1 then 0 else 1
theorem costN_nil (f : Int) : ∀ m : Nat, costN [] f m = 0
  | 0 => rfl
  | m + 1 => by rw [costN, costN_nil f m]; simp [movesAt]
theorem costN_cons {x : Int × Int} {tl : List (Int × Int)} {f : Int} (h : ∀ y ∈ tl, x.1 < y.1) : ∀ m : Nat, costN (x :: tl) f m = costN tl f m + if f < x.1 ∧ x.1 ≤ f + m then 1 else 0
  | 0 => by rw [costN, costN, if_neg (by omega)]; rfl
  | m + 1 => by
    rw [costN, costN, costN_cons h m, movesAt_cons]
    by_cases q : x.1 = f + m + 1
    · have hn : movesAt tl (f + m + 1) = 1 := by
        unfold movesAt
        rw [List.find?_eq_none.2 (fun y hy => by have := h y hy; simp; omega)]
      have c1 : ¬ (f < x.1 ∧ x.1 ≤ f + m) := by omega
      have c2 : f < x.1 ∧ x.1 ≤ f + ((m + 1 : Nat) : Int) := by omega
      rw [if_pos q, hn, if_neg c1, if_pos c2]
      by_cases hx : x.2 = 1
      · rw [if_pos hx]; simp
      · rw [if_neg hx]; simp
    · rw [if_neg q]
      by_cases q2 : f < x.1 ∧ x.1 ≤ f + m
      · have c2 : f < x.1 ∧ x.1 ≤ f + ((m + 1 : Nat) : Int) := by omega
        rw [if_pos q2, if_pos c2]; omega
      · have c2 : ¬ (f < x.1 ∧ x.1 ≤ f + ((m + 1 : Nat) : Int)) := by omega
        rw [if_neg q2, if_neg c2]; omega
theorem costN_le {f : Int} {m : Nat} : ∀ {fs : List (Int × Int)}, fs.Pairwise (fun x y => x.1 < y.1) → costN fs f m ≤ fs.length
  | [], _ => by rw [costN_nil]; simp
  | x :: tl, hp => by
    rw [List.pairwise_cons] at hp
    rw [costN_cons hp.1]
    have := costN_le (f := f) (m := m) hp.2
    simp only [List.length_cons]
    split <;> omega
theorem stepsR_mono {l : Ln} {t : Int} {R S : Dl → Int → Prop} (h : ∀ d c, R d c → S d c) : ∀ (n : Nat) (d : Dl) (c : Int), stepsR l t R n d c → stepsR l t S n d c
  | 0, d, c, hx => h d c hx
  | n + 1, d, c, ⟨d0, c0, h1, h2⟩ => ⟨d0, c0, stepsR_mono h n d0 c0 h1, h2⟩
theorem stepsR_add {l : Ln} {t : Int} {R : Dl → Int → Prop} (m : Nat) : ∀ n : Nat, stepsR l (t + m) (stepsR l t R m) n = stepsR l t R (m + n)
  | 0 => rfl
  | n + 1 => by
    rw [show m + (n + 1) = m + n + 1 by omega, stepsR, stepsR, stepsR_add m n]
    rw [show t + ((m + n : Nat) : Int) + 1 = t + m + n + 1 by omega]
theorem stepsR_low {l : Ln} {t : Int} {R : Dl → Int → Prop} : ∀ (n : Nat) (d : Dl) (c : Int), stepsR l t R n d c → ∃ d0 c0, R d0 c0 ∧ c0 ≤ c
  | 0, d, c, h => ⟨d, c, h, Int.le_refl _⟩
  | n + 1, d, c, ⟨d1, c1, h1, h2⟩ => by
    obtain ⟨d0, c0, g1, g2⟩ := stepsR_low n d1 c1 h1
    exact ⟨d0, c0, g1, by rcases h2 with ⟨_, rfl⟩ | ⟨_, rfl, _⟩ <;> omega⟩
theorem seenR_low {l : Ln} : ∀ (fs : List (Int × Int)) (t : Int) (R : Dl → Int → Prop) (d : Dl) (c : Int), seenR l R t fs d c → ∃ d0 c0, R d0 c0 ∧ c0 ≤ c
  | [], t, R, d, c, h => ⟨d, c, h, Int.le_refl _⟩
  | x :: tl, t, R, d, c, h => by
    obtain ⟨d1, c1, g1, g2⟩ := seenR_low tl _ _ d c h
    obtain ⟨d0, c0, k1, k2⟩ := stepsR_low _ d1 c1 g1.1
    exact ⟨d0, c0, k1, by omega⟩
/-- what truly happened is among what can be -/
theorem true_steps {l : Ln} {U f : Int} {fs : List (Int × Int)} {d0 : Dl} {R : Dl → Int → Prop} (hc : chkFs l U f fs = true) (m : Nat) (h : R (runN l f fs d0 m) (costN fs f m)) : ∀ n : Nat, stepsR l (f + m) R n (runN l f fs d0 (m + n)) (costN fs f (m + n))
  | 0 => h
  | n + 1 => by
    refine ⟨_, _, true_steps hc m h n, ?_⟩
    rw [show m + (n + 1) = m + n + 1 by omega, runN, costN, show f + ((m + n : Nat) : Int) + 1 = f + m + n + 1 by omega]
    rcases moves3 fs (f + m + n + 1) with q | q | q
    · right
      have hlong : isLong l (f + m + n + 1) = false := by
        have hs := (chk_sorted hc).2
        unfold movesAt at q
        split at q
        · rename_i x hx
          have h1 := List.find?_some hx
          simp only [beq_iff_eq] at h1
          rw [← h1]; exact (hs x (List.mem_of_find?_eq_some hx)).2.2
        · cases q
      rw [q]; exact ⟨hlong, by simp, .inl rfl⟩
    · left; rw [q]; exact ⟨rfl, by simp⟩
    · right
      have hlong : isLong l (f + m + n + 1) = false := by
        have hs := (chk_sorted hc).2
        unfold movesAt at q
        split at q
        · rename_i x hx
          have h1 := List.find?_some hx
          simp only [beq_iff_eq] at h1
          rw [← h1]; exact (hs x (List.mem_of_find?_eq_some hx)).2.2
        · cases q
      rw [q]; exact ⟨hlong, by simp, .inr rfl⟩
/-- what is known of what was seen, and of a part of it -/
structure Seen2 (l : Ln) (f : Int) (fs : List (Int × Int)) (d0 : Dl) (l1 some : List (Int × Int)) : Prop where
  truth : seenR l (startR d0) f l1 (runN l f fs d0 (lastS f l1 - f).toNat) (costN fs f (lastS f l1 - f).toNat)
  part : ∀ d c, seenR l (startR d0) f l1 d c → stepsR l (lastS f some) (seenR l (startR d0) f some) (lastS f l1 - lastS f some).toNat d c
  le1 : f ≤ lastS f some
  le2 : lastS f some ≤ lastS f l1
  ok1 : chkSn f f l1 = true
  ok2 : chkSn f f some = true
  len : some.length ≤ l1.length
theorem chkSn_snoc {f : Int} {x : Int × Int} : ∀ {fs : List (Int × Int)} {v : Int}, chkSn f v fs = true → lastS v fs + 1 ≤ x.1 → x.1 ≤ f + 5000 → 0 ≤ x.2 ∧ x.2 ≤ 719 → chkSn f v (fs ++ [x]) = true
  | [], v, _, h1, h2, h3 => by simp [chkSn, h2, h3, lastS] at *; omega
  | y :: tl, v, h, h1, h2, h3 => by
    rw [chkSn, Bool.and_eq_true] at h
    rw [List.cons_append, chkSn, h.1, chkSn_snoc h.2 h1 h2 h3]; rfl
theorem Seen2.nil {l : Ln} {f : Int} {fs : List (Int × Int)} {d0 : Dl} : Seen2 l f fs d0 [] [] := by
  refine ⟨?_, fun d c h => ?_, Int.le_refl _, Int.le_refl _, rfl, rfl, Nat.le_refl _⟩
  · simp only [lastS, Int.sub_self, Int.toNat_zero, runN, costN, seenR]; exact ⟨rfl, rfl⟩
  · simpa [lastS, seenR, stepsR] using h
theorem Seen2.snoc {l : Ln} {U f t : Int} {fs l1 some : List (Int × Int)} {d0 : Dl} (h : Seen2 l f fs d0 l1 some) (hc : chkFs l U f fs = true) (ht : lastS f l1 < t) (ht2 : t ≤ f + 5000) (hs : 0 ≤ (runN l f fs d0 (t - f).toNat).s ∧ (runN l f fs d0 (t - f).toNat).s ≤ 719) (b : Bool) :
    Seen2 l f fs d0 (l1 ++ [(t, (runN l f fs d0 (t - f).toNat).s)]) (if b then some ++ [(t, (runN l f fs d0 (t - f).toNat).s)] else some) := by
  have hle1 := h.le1
  have hle2 := h.le2
  have htr : seenR l (startR d0) f (l1 ++ [(t, (runN l f fs d0 (t - f).toNat).s)]) (runN l f fs d0 (t - f).toNat) (costN fs f (t - f).toNat) := by
    rw [seenR_snoc]
    refine ⟨?_, rfl⟩
    have := true_steps hc (lastS f l1 - f).toNat h.truth (t - lastS f l1).toNat
    rw [show f + ((lastS f l1 - f).toNat : Int) = lastS f l1 by omega, show (lastS f l1 - f).toNat + (t - lastS f l1).toNat = (t - f).toNat by omega] at this
    exact this
  have hst : ∀ d c, stepsR l (lastS f l1) (seenR l (startR d0) f l1) (t - lastS f l1).toNat d c → stepsR l (lastS f some) (seenR l (startR d0) f some) (t - lastS f some).toNat d c := fun d c hd => by
    have := stepsR_mono h.part _ d c hd
    have h2 := stepsR_add (l := l) (t := lastS f some) (R := seenR l (startR d0) f some) (lastS f l1 - lastS f some).toNat (t - lastS f l1).toNat
    rw [show lastS f some + ((lastS f l1 - lastS f some).toNat : Int) = lastS f l1 by omega, show (lastS f l1 - lastS f some).toNat + (t - lastS f l1).toNat = (t - lastS f some).toNat by omega] at h2
    rw [h2] at this
    exact this
  have ho1 := chkSn_snoc (x := (t, (runN l f fs d0 (t - f).toNat).s)) h.ok1 (by dsimp only; omega) ht2 hs
  have hlen := h.len
  cases b with
  | true =>
    refine ⟨by rw [lastS_snoc]; exact htr, fun d c hd => ?_, by rw [if_pos rfl, lastS_snoc]; dsimp only; omega, by rw [if_pos rfl, lastS_snoc, lastS_snoc]; exact Int.le_refl _, ho1, ?_, by simp; omega⟩
    · rw [if_pos rfl, lastS_snoc, lastS_snoc, Int.sub_self]
      show seenR l (startR d0) f (some ++ [(t, _)]) d c
      rw [seenR_snoc] at hd ⊢
      exact ⟨hst d c hd.1, hd.2⟩
    · rw [if_pos rfl]
      exact chkSn_snoc h.ok2 (by dsimp only; omega) ht2 hs
  | false =>
    refine ⟨by rw [lastS_snoc]; exact htr, fun d c hd => ?_, h.le1, by rw [lastS_snoc]; simp only [Bool.false_eq_true, if_false]; omega, ho1, h.ok2, by simp; omega⟩
    rw [lastS_snoc]
    rw [seenR_snoc] at hd
    exact hst d c hd.1
/-- what follows -/
theorem Seen2.few {l : Ln} {U sh f : Int} {fs l1 some : List (Int × Int)} (h : Seen2 l f fs (start l sh f) l1 some) (hc : chkFs l U f fs = true) (h20 : fs.length ≤ 20) (hl : l.ok) (hf : 0 ≤ f ∧ f ≤ 100000) (hsh : 0 ≤ sh ∧ sh ≤ 719) (h40 : l1.length ≤ 40) :
    ∃ a b : Int, FewOut l sh f l1 a 0 ∧ FewOut l sh f some b 0 ∧ FewOut l sh f [] 0 0 ∧ 0 ≤ b ∧ b ≤ a ∧ a ≤ fs.length := by
  have hlen := h.len
  have out : ∀ (xs : List (Int × Int)) (n : Int), xs.length ≤ 40 → chkSn f f xs = true → FewSpec (seenR l (startR (start l sh f)) f xs) n 0 → FewOut l sh f xs n 0 := fun xs n h1 h2 h3 => by
    unfold FewOut
    rw [if_neg (by rw [err_of_ok hl]; simp), if_neg (by simp [btw_iff.2 hf]), if_neg (by simp [btw_iff.2 hsh]), if_neg (by unfold seenErr; rw [if_neg (by omega), if_pos h2]; simp)]
    exact h3
  -- the least cost
  have least : ∀ (R : Dl → Int → Prop), (∀ d c, R d c → 0 ≤ c) → ∀ (k : Nat), k ≤ 20 → (∃ d c, R d c ∧ c ≤ k) → ∃ n, FewSpec R n 0 ∧ 0 ≤ n ∧ n ≤ k := by
    intro R h0 k
    induction k with
    | zero =>
      rintro _ ⟨d, c, h1, h2⟩
      have := h0 d c h1
      have : c = 0 := by omega
      subst this
      exact ⟨0, .inl ⟨rfl, by omega, ⟨d, h1⟩, fun d' c' h' => h0 d' c' h'⟩, by omega, by omega⟩
    | succ k ih =>
      rintro hk ⟨d, c, h1, h2⟩
      by_cases q : ∃ d c, R d c ∧ c ≤ k
      · obtain ⟨n, g1, g2, g3⟩ := ih (by omega) q
        exact ⟨n, g1, g2, by omega⟩
      · have hc : c = k + 1 := by
          rcases Int.lt_or_le (k : Int) c with g | g
          · omega
          · exact absurd ⟨d, c, h1, g⟩ q
        subst hc
        refine ⟨k + 1, .inl ⟨rfl, by omega, ⟨d, h1⟩, fun d' c' h' => ?_⟩, by omega, by omega⟩
        rcases Int.lt_or_le (k : Int) c' with g | g
        · omega
        · exact absurd ⟨d', c', h', g⟩ q
  have h0 : ∀ xs d c, seenR l (startR (start l sh f)) f xs d c → 0 ≤ c := fun xs d c hx => by
    obtain ⟨d0, c0, g1, g2⟩ := seenR_low xs f _ d c hx
    have := g1.2
    omega
  have hcost := costN_le (f := f) (m := (lastS f l1 - f).toNat) (chk_sorted hc).1
  obtain ⟨a, ha, ha0, hal⟩ := least _ (h0 l1) fs.length h20 ⟨_, _, h.truth, hcost⟩
  rcases ha with ⟨_, g1, ⟨da, g2⟩, g3⟩ | ⟨g1, _⟩
  case inr => cases g1
  obtain ⟨d1, c1, k1, k2⟩ := stepsR_low _ da a (h.part da a g2)
  obtain ⟨b, hb, hb0, hbl⟩ := least _ (h0 some) a.toNat (by omega) ⟨d1, c1, k1, by omega⟩
  refine ⟨a, b, out l1 a h40 h.ok1 (.inl ⟨rfl, g1, ⟨da, g2⟩, g3⟩), out some b (by omega) h.ok2 hb, out [] 0 (by simp) rfl (.inl ⟨rfl, by omega, ⟨start l sh f, rfl, rfl⟩, fun d c hd => h0 [] d c hd⟩), hb0, by omega, by omega⟩
end Pu
end Go.Proofs.Ytpjlihkpnhamlaa
end

/- TRUTH: what the law computes is true. -/
section
set_option linter.unusedSimpArgs false
set_option linter.unusedVariables false
namespace Go.Proofs.Ytpjlihkpnhamlaa.Sy
open Go.RowKit

theorem ev_fewest {n : Nat} {r e c sh f v : Int} {fs : List (Int × Int)} (h : fs.length ≤ 1000) (hr : -1000 ≤ r ∧ r ≤ 1000) (he : -1000 ≤ e ∧ e ≤ 1000) (hc : -1000 ≤ c ∧ c ≤ 1000) (ho : Pu.FewOut ⟨r, e, c⟩ sh f fs v 0) : ev_pulse_Fewest n r e c sh f fs = some (v, 0) := by
  unfold ev_pulse_Fewest wf64
  rw [chk_of (by simp; omega), chk_of (wf64_iff.2 (by omega)), chk_of (wf64_iff.2 (by omega)), chk_of (wf64_iff.2 (by omega)), chk_of (@decide_eq_true _ (Classical.propDecidable _) fun n e n' e' h1 h2 => h1.uniq h2)]
  rw [few_val (fun n e n' e' h1 h2 => h1.uniq h2) ho]
theorem tr_j3 {n : Nat} {f sh r e c U : Int} {xs l1 l2 : List (Int × Int)} (hl : (Pu.Ln.mk r e c).ok) (hf : 0 ≤ f ∧ f ≤ 65535) (hs : 0 ≤ sh) (hc : Pu.chkFs ⟨r, e, c⟩ U f xs = true) (h20 : xs.length ≤ 20) (h40 : l1.length ≤ 40)
    (h : Pu.Seen2 ⟨r, e, c⟩ f xs (Pu.start ⟨r, e, c⟩ (sh % 720) f) l1 l2) : ev_law09_PulseTruth_j3 n sh f r e c xs l1 l2 = some true := by
  have hl' := hl
  unfold Pu.Ln.ok at hl'
  dsimp only at hl'
  obtain ⟨a, b, h1, h2, h3, h4, h5, h6⟩ := h.few hc h20 hl (by omega) (by omega) h40
  have hlen := h.len
  unfold ev_law09_PulseTruth_j3
  rw [Int.tmod_eq_emod_of_nonneg hs, bind_of (ev_seen (by omega)), bind_of (ev_fewest (by omega) (by omega) (by omega) (by omega) h1), bind_of (ev_fewest (by omega) (by omega) (by omega) (by omega) h2), bind_of (ev_fewest (by simp) (by omega) (by omega) (by omega) h3)]
  simp only [cond_if]
  rw [if_pos (by simp), if_pos (by simp), if_pos (by simp), if_pos (by simp), if_pos (by simpa using h5), if_pos (by simpa using h6), if_pos (by simpa using h4)]
  rfl
theorem tr_l4 {n : Nat} {f sh r e c t x i : Int} {zs : List Int} {xs l1 l2 : List (Int × Int)} {K : Int → Int → Int → Int → Int → List Int → List (Int × Int) → List (Int × Int) → List (Int × Int) → Option Bool}
    (hl : (Pu.Ln.mk r e c).ok) (hf : 0 ≤ f ∧ f ≤ 65535) (hs : 0 ≤ sh) (hc : Pu.chkFs ⟨r, e, c⟩ (f + 50) f xs = true) (h20 : xs.length ≤ 20) (h40 : l1.length ≤ 40) (h41 : l2.length ≤ 40) (hx : 0 ≤ x ∧ x ≤ 255) (ht : f ≤ t) (htU : t + (1 + x % 15) ≤ f + 50) (hi : 0 ≤ i ∧ i ≤ 9223372036854775806)
    (hz : zs[i.toNat]? = some x)
    (hK : ∀ s, s = (Pu.runN ⟨r, e, c⟩ f xs (Pu.start ⟨r, e, c⟩ (sh % 720) f) (t + (1 + x % 15) - f).toNat).s → K (t + (1 + x % 15)) (i + 1) r e c zs xs (l1 ++ [(t + (1 + x % 15), s)]) (if decide (0 < x % 3) = true then l2 ++ [(t + (1 + x % 15), s)] else l2) = some true) :
    ∀ (m k : Nat), k ≤ xs.length → xs.length < m + k → ev_law09_PulseTruth_l4 n t x sh f i K m k r e c zs xs l1 l2 ((xs.take k).filter fun y => decide (y.1 ≤ t + (1 + x % 15))) = some true := by
  have hl' := hl
  unfold Pu.Ln.ok at hl'
  dsimp only at hl'
  intro m
  induction m with
  | zero => intro k h3 h4; omega
  | succ m ih =>
    intro k h3 h4
    rw [ev_law09_PulseTruth_l4, cond_if]
    simp only [Int.tmod_eq_emod_of_nonneg hx.1]
    rcases Nat.lt_or_ge k xs.length with hk | hk
    · have hih := ih (k + 1) (by omega) (by omega)
      rw [List.take_succ_eq_append_getElem hk, List.filter_append] at hih
      have hl1 := List.length_filter_le (fun y : Int × Int => decide (y.1 ≤ t + (1 + x % 15))) (xs.take k)
      rw [List.length_take] at hl1
      rw [if_pos (by simp; omega), idx_nat (List.getElem?_eq_getElem hk), cond_if]
      by_cases hx1 : xs[k].1 ≤ t + (1 + x % 15)
      · rw [List.filter_cons_of_pos (by simpa using hx1), List.filter_nil] at hih
        rw [if_pos (by simpa using hx1), chk_of (room_iff.2 (by simp only [List.length_singleton]; omega)), chk_of (in64_of (by omega))]
        exact hih
      · rw [List.filter_cons_of_neg (by simpa using hx1), List.filter_nil, List.append_nil] at hih
        rw [if_neg (by simpa using hx1), chk_of (in64_of (by omega))]
        exact hih
    · rw [if_neg (by simp; omega), List.take_of_length_le hk]
      have hl1 := List.length_filter_le (fun y : Int × Int => decide (y.1 ≤ t + (1 + x % 15))) xs
      rw [Int.tmod_eq_emod_of_nonneg hs]
      rw [bind_of (ev_run (by omega) (by omega) (by omega) (by omega)), Pu.run_val hl (by omega) (by omega) (by omega) (Pu.chk_low hc (Int.le_refl _)) (by omega)]
      rw [Pu.runN_congr (fs := xs.filter fun y => decide (y.1 ≤ t + (1 + x % 15))) (gs := xs) _ fun u h1 h2 => Pu.moves_filter fun y hy => by simp; omega]
      have hKs := hK _ rfl
      generalize (Pu.runN ⟨r, e, c⟩ f xs (Pu.start ⟨r, e, c⟩ (sh % 720) f) (t + (1 + x % 15) - f).toNat).s = s at *
      dsimp only
      rw [cond_if, if_neg (by simp), chk_of (room_iff.2 (by simp only [List.length_singleton]; omega)), idx_of hi.1 hz, Int.tmod_eq_emod_of_nonneg hx.1, cond_if]
      by_cases h3 : 0 < x % 3
      · rw [if_pos (by simpa using h3)] at hKs
        rw [if_pos (by simpa using h3), chk_of (room_iff.2 (by simp only [List.length_singleton]; omega)), chk_of (in64_of (by omega))]
        exact hKs
      · rw [if_neg (by simpa using h3)] at hKs
        rw [if_neg (by simpa using h3), chk_of (in64_of (by omega))]
        exact hKs
theorem tr_l1 {n : Nat} {f sh r e c : Int} {zs : List Int} {xs : List (Int × Int)} (hl : (Pu.Ln.mk r e c).ok) (hf : 0 ≤ f ∧ f ≤ 65535) (hs : 0 ≤ sh) (hc : Pu.chkFs ⟨r, e, c⟩ (f + 50) f xs = true) (h20 : xs.length ≤ 20) (hz : ∀ z ∈ zs, 0 ≤ z ∧ z ≤ 255) (hzl : zs.length ≤ 9223372036854775807) (hn : 1000 < n) :
    ∀ (m i : Nat) (l1 l2 : List (Int × Int)), i ≤ zs.length → zs.length < m + i → l1.length ≤ 40 → Pu.Seen2 ⟨r, e, c⟩ f xs (Pu.start ⟨r, e, c⟩ (sh % 720) f) l1 l2 → Pu.lastS f l1 ≤ f + 50 →
      ev_law09_PulseTruth_l1 n f sh m (Pu.lastS f l1) i r e c zs xs l1 l2 = some true := by
  intro m
  induction m with
  | zero => intro i l1 l2 h3 h4; omega
  | succ m ih =>
    intro i l1 l2 h3 h4 h40 hS h50
    have hlen := hS.len
    have hle1 := hS.le1
    have hle2 := hS.le2
    have hj3 := tr_j3 (n := n) hl hf hs hc h20 h40 hS
    rw [ev_law09_PulseTruth_l1, cond_if, cond_if]
    rcases Nat.lt_or_ge i zs.length with hi | hi
    · rw [if_pos (by simp; omega)]
      by_cases h6 : l1.length < 40
      · rw [if_pos (by simp; omega)]
        unfold ev_law09_PulseTruth_j2
        have hz' := hz zs[i] (List.getElem_mem hi)
        rw [idx_nat (List.getElem?_eq_getElem hi), Int.tmod_eq_emod_of_nonneg hz'.1, chk_of (in64_of (by omega)), chk_of (in64_of (by omega)), chk_of (in64_of (by omega)), chk_of (in64_of (by omega)), cond_if]
        by_cases h7 : f + 50 < Pu.lastS f l1 + (1 + zs[i] % 15)
        · rw [if_pos (by simpa using h7)]; exact hj3
        · rw [if_neg (by simpa using h7)]
          have hgo := tr_l4 (n := n) (zs := zs) (i := (i : Int)) (l1 := l1) (l2 := l2) (t := Pu.lastS f l1) (x := zs[i]) (K := fun i17q i18q i19q i20q i21q l22q l23q l24q l25q => ev_law09_PulseTruth_l1 n f sh m i17q i18q i19q i20q i21q l22q l23q l24q l25q) hl hf hs hc h20 h40 (by omega) hz' (by omega) (by omega) (by omega) (by simp) (fun s hs' => by
            have hsok := (Pu.runN_ok (l := ⟨r, e, c⟩) (f := f) (fs := xs) (Pu.start_ok (l := ⟨r, e, c⟩) (s := sh % 720) (t := f) hl (by omega) (by omega) hf.1) (by omega) (Pu.lastS f l1 + (1 + zs[i] % 15) - f).toNat)
            unfold Pu.Dl.ok at hsok
            have hS' := hS.snoc (t := Pu.lastS f l1 + (1 + zs[i] % 15)) hc (by omega) (by omega) (by omega) (decide (0 < zs[i] % 3))
            rw [← hs'] at hS'
            have := ih (i + 1) _ _ (by omega) (by omega) (by simp; omega) hS' (by rw [Pu.lastS_snoc]; dsimp only; omega)
            rw [Pu.lastS_snoc] at this
            exact this) n 0 (by omega) (by omega)
          exact hgo
      · rw [if_neg (by simp; omega)]; exact hj3
    · rw [if_neg (by simp; omega)]; exact hj3
theorem tr_j0 {n : Nat} {f sh r e c : Int} {zs ls : List Int} (hl : (Pu.Ln.mk r e c).ok) (hf : 0 ≤ f ∧ f ≤ 65535) (hs : 0 ≤ sh ∧ sh ≤ 65535) (hz : ∀ z ∈ zs, 0 ≤ z ∧ z ≤ 255) (hzl : zs.length ≤ 9223372036854775807) (hx : ∀ z ∈ ls, 0 ≤ z ∧ z ≤ 255) (hxl : ls.length ≤ 9223372036854775807)
    (hn : zs.length + ls.length + 1000 < n) : ev_law09_PulseTruth_j0 n r e c f sh zs ls = some true := by
  unfold ev_law09_PulseTruth_j0
  rw [chk_of (in64_of (by omega)), chk_of (in64_of (by omega)), chk_of (in64_of (by omega)), bind_of (ev_list hl hf.1 (by omega) (by omega) hz (by omega) hzl)]
  have hchk : Pu.chkFs ⟨r, e, c⟩ (f + 50) f (Pu.lst ⟨r, e, c⟩ (f + 50) zs 0 f) = true := Pu.lst_chk (Int.le_refl _)
  have h20 : (Pu.lst ⟨r, e, c⟩ (f + 50) zs 0 f).length ≤ 20 := Pu.lst_len (n := 0) (by omega)
  exact tr_l1 hl hf hs.1 hchk h20 hx hxl (by omega) n 0 [] [] (by omega) (by omega) (by simp) Pu.Seen2.nil (by simp only [Pu.lastS]; omega)
theorem truth_ev {y1 : Int} {y2 : Int} {y3 : Int} {y4 : Int} {y5 : Int} {y6 : List Int} {y7 : List Int} (h0 : (Lit.int .u8 y1).wf = true ∧ (Lit.int .u8 y2).wf = true ∧ (Lit.int .u8 y3).wf = true ∧ (Lit.int .u16 y4).wf = true ∧ (Lit.int .u16 y5).wf = true ∧ (y6.length ≤ maxLen ∧ ∀ el5 ∈ y6, (Lit.int .u8 el5).wf = true) ∧ (y7.length ≤ maxLen ∧ ∀ el5 ∈ y7, (Lit.int .u8 el5).wf = true)) :
    ∃ n, ev_law09_PulseTruth n y1 y2 y3 y4 y5 y6 y7 = some true := by
  obtain ⟨h1, h2, h3, h4, h5, h6, h7⟩ := h0
  refine ⟨y6.length + y7.length + 1001, ?_⟩
  unfold ev_law09_PulseTruth
  rw [bind_of (ev_wired (wf8.1 h1) (wf8.1 h2) (wf8.1 h3)), cond_if]
  have hl := Pu.wL_ok (r := y1) (e := y2) (c := y3) (wf8.1 h3).1
  split
  · exact tr_j0 (.inl ⟨rfl, rfl, rfl⟩) (wf16.1 h4) (wf16.1 h5) (fun z hz => wf8.1 (h6.2 z hz)) h6.1 (fun z hz => wf8.1 (h7.2 z hz)) h7.1 (by omega)
  · exact tr_j0 hl (wf16.1 h4) (wf16.1 h5) (fun z hz => wf8.1 (h6.2 z hz)) h6.1 (fun z hz => wf8.1 (h7.2 z hz)) h7.1 (by omega)
end Go.Proofs.Ytpjlihkpnhamlaa.Sy
end
