/- LawPulseAgain: texts joined into one: LstPlain, AgainPlain, PulseRefBack, AgainFacts, PulseWired, PlP, EvAgain. -/
import Derived.Deep.RegionHeld3
import Derived.Deep.DeepMust
import Derived.BigRegion
import Derived.RegionTactic
import Derived.ChangeAlike
import Derived.Test.YtpjlihkpnhamlaaLawPulseAgainM1
import Derived.Test.YtpjlihkpnhamlaaLawPulseAgainM2
import Derived.Test.YtpjlihkpnhamlaaLawPulseAgainM3
import Derived.Test.YtpjlihkpnhamlaaLawPulseAgainM4

/- The laws' list of faults is in order; a right dial without faults stays right: plain. -/
section
set_option linter.unusedSimpArgs false
set_option linter.unusedVariables false
namespace Go.Proofs.Ytpjlihkpnhamlaa
namespace Pu
theorem lst_len {l : Ln} {U : Int} : ∀ {zs : List Int} {n : Nat} {t : Int}, n ≤ 20 → (lst l U zs n t).length + n ≤ 20
  | [], n, t, h => by simp [lst, h]
  | z :: zs, n, t, h => by
    rw [lst]
    split
    · split
      · split
        · exact lst_len h
        · have := lst_len (l := l) (U := U) (zs := zs) (n := n + 1) (t := t + (1 + z / 4 % 8)) (by omega)
          rw [List.length_cons]; omega
      · simp; omega
    · simp; omega
theorem lst_chk {l : Ln} {U : Int} : ∀ {zs : List Int} {n : Nat} {v t : Int}, v ≤ t → chkFs l U v (lst l U zs n t) = true
  | [], n, v, t, h => by simp [lst, chkFs]
  | z :: zs, n, v, t, h => by
    rw [lst]
    split
    · split
      · rename_i hle
        split
        · exact lst_chk (by omega)
        · rename_i hns
          have h1 : v + 1 ≤ t + (1 + z / 4 % 8) ∧ t + (1 + z / 4 % 8) ≤ U := by omega
          have h2 : 1 + z % 2 = 1 ∨ 1 + z % 2 = 2 := by omega
          have h3 : isLong l (t + (1 + z / 4 % 8)) = false := by
            unfold isLong
            by_cases q : l.r = 0
            · simp [q]
            · have : ¬ (t + (1 + z / 4 % 8)) % l.e = 0 := fun h => hns ⟨q, h⟩
              simp [this]
          rw [chk_true h1 h2 h3]
          exact lst_chk (Int.le_refl _)
      · simp [chkFs]
    · simp [chkFs]
theorem chk_upto {l : Ln} {U t : Int} : ∀ {fs : List (Int × Int)} {f : Int}, chkFs l U f fs = true → lastF f fs ≤ t → chkFs l t f fs = true
  | [], f, _, _ => by simp [chkFs]
  | x :: tl, f, h, hl => by
    rw [chkFs] at h ⊢
    simp only [Bool.and_eq_true, Bool.or_eq_true, decide_eq_true_eq, Bool.not_eq_true'] at h ⊢
    rw [lastF] at hl
    have := lastF_btw h.2 h.1.1.1.2
    exact ⟨⟨⟨⟨h.1.1.1.1, by omega⟩, h.1.1.2⟩, h.1.2⟩, chk_upto h.2 hl⟩
theorem faults_ok {l : Ln} {f U : Int} {fs : List (Int × Int)} (h : chkFs l U f fs = true) (hl : fs.length ≤ 20) : faultsErr l f U fs = 0 := by
  unfold faultsErr; rw [if_neg (by omega), if_pos h]
theorem run_val {l : Ln} {sh f U : Int} {fs : List (Int × Int)} (hl : l.ok) (hf : 0 ≤ f ∧ f ≤ 100000) (hs : 0 ≤ sh ∧ sh ≤ 719) (hU : f ≤ U ∧ U ≤ f + 5000) (h : chkFs l U f fs = true) (h20 : fs.length ≤ 20) :
    runVal l sh f fs U = ((runN l f fs (start l sh f) (U - f).toNat).s, 0) := by
  simp only [runVal]
  rw [if_neg (by rw [err_of_ok hl]; simp), if_neg (by simp [btw_iff.2 hf]), if_neg (by simp [btw_iff.2 hs]), if_neg (by simp [btw_iff.2 hU]), if_neg (by rw [faults_ok h h20]; simp), fol_run h]

theorem emod_succ {t e : Int} (he : 0 < e) : (t + 1) % e = if t % e = e - 1 then 0 else t % e + 1 := by
  have h1 := Int.emod_nonneg t (show e ≠ 0 by omega)
  have h2 := Int.emod_lt_of_pos t he
  rw [Int.add_emod]
  by_cases q : t % e = e - 1
  · rw [if_pos q, q]
    by_cases q1 : e = 1
    · subst q1; simp
    · rw [Int.emod_eq_of_lt (a := 1) (by omega) (by omega), show e - 1 + 1 = e by omega, Int.emod_self]
  · rw [if_neg q, Int.emod_eq_of_lt (a := 1) (by omega) (by omega), Int.emod_eq_of_lt (by omega) (by omega)]
/-- a dial is right at a minute -/
def right (l : Ln) (t : Int) (d : Dl) : Prop := d.s = t % 720 ∧ (l.r = 3 → d.k = t % l.e)
theorem right_start {l : Ln} {t : Int} : right l t (start l (t % 720) t) := by
  unfold right start
  split
  · rename_i h; exact ⟨rfl, fun q => by omega⟩
  · exact ⟨rfl, fun _ => rfl⟩
theorem right_step {l : Ln} {t : Int} {d : Dl} (hl : l.ok) (ht : 0 ≤ t) (h : right l t d) : right l (t + 1) (imp l (t + 1) 1 d) := by
  obtain ⟨r, e, c⟩ := l
  obtain ⟨s, k⟩ := d
  obtain ⟨h1, h2⟩ := h
  dsimp only at h1 h2
  rcases hl with ⟨q1, q2, q3⟩ | ⟨q1, q2, q3, q4, q5, q6, q7⟩
  · dsimp only at q1 q2 q3
    subst q1 q2 q3
    simp [imp, isLong, mvs, mv, right]
    omega
  · dsimp only at q1 q2 q3 q4 q5 q6 q7
    have hd : e ∣ 720 := Int.dvd_of_emod_eq_zero q5
    have hse : s % e = t % e := by rw [h1]; exact Int.emod_emod_of_dvd t hd
    have hes := emod_succ (t := t) (e := e) (by omega)
    have hm := Int.emod_nonneg t (show e ≠ 0 by omega)
    have hm2 := Int.emod_lt_of_pos t (show 0 < e by omega)
    have hs2 : (s + 1) % 720 = (t + 1) % 720 := by omega
    have hse2 : ((s + 1) % 720) % e = (t + 1) % e := by rw [hs2]; exact Int.emod_emod_of_dvd (t + 1) hd
    by_cases hlg : (t + 1) % e = 0
    · have htm : t % e = e - 1 := by
        by_cases q : t % e = e - 1
        · exact q
        · rw [if_neg q] at hes; omega
      have hL : isLong ⟨r, e, c⟩ (t + 1) = true := by simp [isLong, hlg]; omega
      have hmv : mvs ⟨r, e, c⟩ true 1 ⟨s, k⟩ = ⟨(s + 1) % 720, k + 1⟩ := by simp [mvs, mv]
      unfold imp
      rw [if_pos hL, hmv]
      have hby : cby ⟨r, e, c⟩ ⟨(s + 1) % 720, k + 1⟩ = 0 := by
        unfold cby
        dsimp only
        rw [hse2, hlg]
        split
        · first | omega | (rw [if_pos (by omega)]; rfl)
        · split
          · simp
          · have : k = e - 1 := by rw [h2 (by omega)]; exact htm
            omega
      unfold cor
      rw [hby, if_pos (by dsimp only; omega)]
      refine ⟨?_, fun _ => hlg.symm⟩
      dsimp only
      omega
    · have htm : t % e ≠ e - 1 := fun q => by rw [if_pos q] at hes; exact hlg hes
      have hL : isLong ⟨r, e, c⟩ (t + 1) = false := by simp [isLong, hlg]
      have hmv : mvs ⟨r, e, c⟩ false 1 ⟨s, k⟩ = ⟨(s + 1) % 720, k + 1⟩ := by
        simp only [mvs, mv]
        rw [if_neg]
        rw [hse]
        exact fun q => htm q.2.2
      unfold imp
      rw [hL, if_neg (by simp), hmv]
      refine ⟨hs2, fun q => ?_⟩
      dsimp only at q ⊢
      rw [hes, if_neg htm, h2 q]
/-- no fault from a minute on: a right dial stays right -/
theorem right_run {l : Ln} {f : Int} {fs : List (Int × Int)} {d : Dl} (hl : l.ok) (f0 : 0 ≤ f) {m : Nat} (hr : right l (f + m) (runN l f fs d m)) (hf : ∀ x ∈ fs, x.1 ≤ f + m) : ∀ n : Nat, right l (f + m + n) (runN l f fs d (m + n))
  | 0 => by simpa using hr
  | n + 1 => by
    have h1 := right_run hl f0 hr hf n
    have hmv : movesAt fs (f + (m + n : Nat) + 1) = 1 := by
      unfold movesAt
      rw [List.find?_eq_none.2 (fun x hx => by have := hf x hx; simp; omega)]
    rw [← Nat.add_assoc, runN, hmv, show f + ((m + n : Nat) : Int) + 1 = f + m + n + 1 by omega, show f + m + ((n + 1 : Nat) : Int) = f + m + n + 1 by omega]
    exact right_step hl (by omega) h1
end Pu
end Go.Proofs.Ytpjlihkpnhamlaa
end

/- If a line corrects as many faults as there are, a right dial is right again at the next multiple: plain. -/
section
set_option linter.unusedSimpArgs false
set_option linter.unusedVariables false
namespace Go.Proofs.Ytpjlihkpnhamlaa
namespace Pu
/-- how often a dial is moved in m minutes -/
def mvN (fs : List (Int × Int)) (f : Int) : Nat → Int
  | 0 => 0
  | m + 1 => mvN fs f m + movesAt fs (f + m + 1)
theorem mvN_nil (f : Int) : ∀ m : Nat, mvN [] f m = m
  | 0 => rfl
  | m + 1 => by rw [mvN, mvN_nil f m]; simp [movesAt]
theorem movesAt_cons (x : Int × Int) (tl : List (Int × Int)) (t : Int) : movesAt (x :: tl) t = if x.1 = t then (if x.2 = 1 then 0 else 2) else movesAt tl t := by
  unfold movesAt
  rw [List.find?_cons]
  by_cases h : x.1 = t
  · simp [h]
  · have : (x.1 == t) = false := by simp [h]
    rw [this, if_neg h]
theorem mvN_cons {x : Int × Int} {tl : List (Int × Int)} {f : Int} (h : ∀ y ∈ tl, x.1 < y.1) : ∀ m : Nat, mvN (x :: tl) f m = mvN tl f m + if f < x.1 ∧ x.1 ≤ f + m then (if x.2 = 1 then -1 else 1) else 0
  | 0 => by rw [mvN, mvN, if_neg (by omega)]; rfl
  | m + 1 => by
    rw [mvN, mvN, mvN_cons h m, movesAt_cons]
    by_cases q : x.1 = f + m + 1
    · have hn : movesAt tl (f + m + 1) = 1 := by
        unfold movesAt
        rw [List.find?_eq_none.2 (fun y hy => by have := h y hy; simp; omega)]
      have c1 : ¬ (f < x.1 ∧ x.1 ≤ f + m) := by omega
      have c2 : f < x.1 ∧ x.1 ≤ f + ((m + 1 : Nat) : Int) := by omega
      rw [if_pos q, hn, if_neg c1, if_pos c2]
      by_cases hx : x.2 = 1
      · rw [if_pos hx, if_pos hx]; omega
      · rw [if_neg hx, if_neg hx]; omega
    · rw [if_neg q]
      by_cases q2 : f < x.1 ∧ x.1 ≤ f + m
      · have c2 : f < x.1 ∧ x.1 ≤ f + ((m + 1 : Nat) : Int) := by omega
        rw [if_pos q2, if_pos c2]; omega
      · have c2 : ¬ (f < x.1 ∧ x.1 ≤ f + ((m + 1 : Nat) : Int)) := by omega
        rw [if_neg q2, if_neg c2]; omega
theorem mvN_count {f : Int} {m : Nat} : ∀ {fs : List (Int × Int)}, fs.Pairwise (fun x y => x.1 < y.1) → (∀ x ∈ fs, f < x.1 ∧ x.1 ≤ f + m) → mvN fs f m = m - cntA fs + cntB fs
  | [], _, _ => by rw [mvN_nil]; simp [cntA, cntB]
  | x :: tl, hp, hr => by
    rw [List.pairwise_cons] at hp
    rw [mvN_cons hp.1, mvN_count hp.2 (fun y hy => hr y (List.mem_cons_of_mem _ hy)), if_pos (hr x List.mem_cons_self)]
    unfold cntA cntB
    rw [List.countP_cons, List.countP_cons]
    by_cases q : x.2 = 1
    · simp [q]; omega
    · simp [q]; omega
theorem moves3 (fs : List (Int × Int)) (t : Int) : movesAt fs t = 0 ∨ movesAt fs t = 1 ∨ movesAt fs t = 2 := by
  have := movesAt_le fs t; omega
theorem at_mod {e f x : Int} (hf : f % e = 0) (hx : 0 ≤ x ∧ x < e) : (f + x) % e = x := by
  rw [Int.add_emod, hf, Int.zero_add, Int.emod_emod, Int.emod_eq_of_lt hx.1 hx.2]
theorem free_run {r e c f : Int} {fs : List (Int × Int)} (hr : r ≠ 2) (hf : f % e = 0) : ∀ m : Nat, (m : Int) ≤ e - 1 → runN ⟨r, e, c⟩ f fs ⟨f % 720, 0⟩ m = ⟨(f + mvN fs f m) % 720, mvN fs f m⟩
  | 0, _ => by simp [runN, mvN]
  | m + 1, hm => by
    have hL : isLong ⟨r, e, c⟩ (f + m + 1) = false := by
      have : (f + m + 1) % e = m + 1 := by rw [Int.add_assoc]; exact at_mod hf (by omega)
      simp [isLong, this]; omega
    rw [runN, free_run hr hf m (by omega), mvN]
    unfold imp
    rw [hL, if_neg (by simp)]
    rcases moves3 fs (f + m + 1) with q | q | q <;> rw [q] <;> simp [mvs, mv, hr] <;> omega
theorem wait_run {e c f : Int} {fs : List (Int × Int)} (hd : e ∣ 720) (he : 2 ≤ e) (hf : f % e = 0) : ∀ m : Nat, (m : Int) ≤ e - 1 → ∃ k, runN ⟨2, e, c⟩ f fs ⟨f % 720, 0⟩ m = ⟨(f + min (e - 1) (mvN fs f m)) % 720, k⟩ ∧ 0 ≤ mvN fs f m
  | 0, _ => ⟨0, by simp only [runN, mvN]; rw [show min (e - 1) 0 = 0 by omega, Int.add_zero], by simp [mvN]⟩
  | m + 1, hm => by
    have hL : isLong ⟨2, e, c⟩ (f + m + 1) = false := by
      have : (f + m + 1) % e = m + 1 := by rw [Int.add_assoc]; exact at_mod hf (by omega)
      simp [isLong, this]; omega
    have hmv : ∀ x k : Int, 0 ≤ x → x ≤ e - 1 → ∃ k', mv ⟨2, e, c⟩ false ⟨(f + x) % 720, k⟩ = ⟨(f + min (e - 1) (x + 1)) % 720, k'⟩ := fun x k h0 h1 => by
      have hx : (f + x) % 720 % e = x := by rw [Int.emod_emod_of_dvd _ hd]; exact at_mod hf (by omega)
      unfold mv
      dsimp only
      rw [hx]
      by_cases q : x = e - 1
      · rw [if_pos ⟨rfl, rfl, q⟩, show min (e - 1) (x + 1) = x by omega]; exact ⟨_, rfl⟩
      · rw [if_neg (fun h => q h.2.2), show min (e - 1) (x + 1) = x + 1 by omega]
        exact ⟨k + 1, by simp only [Dl.mk.injEq, and_true]; omega⟩
    obtain ⟨k, hk, h0⟩ := wait_run (c := c) hd he hf m (by omega)
    rw [runN, hk, mvN]
    unfold imp
    rw [hL, if_neg (by simp)]
    obtain ⟨k1, e1⟩ := hmv (min (e - 1) (mvN fs f m)) k (by omega) (by omega)
    obtain ⟨k2, e2⟩ := hmv (min (e - 1) (min (e - 1) (mvN fs f m) + 1)) k1 (by omega) (by omega)
    rcases moves3 fs (f + m + 1) with q | q | q
    · rw [q]; exact ⟨k, by simp [mvs], by simp; exact h0⟩
    · rw [q]
      refine ⟨k1, ?_, by omega⟩
      simp only [mvs]
      rw [e1]; simp only [Dl.mk.injEq, and_true]; congr 1; omega
    · rw [q]
      refine ⟨k2, ?_, by omega⟩
      simp only [mvs]
      rw [e1, e2]; simp only [Dl.mk.injEq, and_true]; congr 1; omega
theorem cnt_nonneg (fs : List (Int × Int)) : 0 ≤ cntA fs ∧ 0 ≤ cntB fs := by unfold cntA cntB; omega
theorem cnt_len (fs : List (Int × Int)) : cntA fs + cntB fs = fs.length := by
  induction fs with
  | nil => rfl
  | cons x tl ih =>
    unfold cntA cntB at *
    rw [List.countP_cons, List.countP_cons, List.length_cons]
    by_cases q : x.2 = 1
    · simp [q]; omega
    · simp [q]; omega
/-- as many faults as are corrected: right again at the next multiple -/
theorem again_right {r e c f : Int} {fs : List (Int × Int)} (hl : (Ln.mk r e c).ok) (hr : r ≠ 0) (f0 : 0 ≤ f) (hf : f % e = 0) (h : chkFs ⟨r, e, c⟩ (f + e - 1) f fs = true) (h20 : fs.length ≤ 20) (hc : (corrVal ⟨r, e, c⟩ (cntA fs) (cntB fs)).1 = true) :
    right ⟨r, e, c⟩ (f + e) (runN ⟨r, e, c⟩ f fs (start ⟨r, e, c⟩ (f % 720) f) e.toNat) := by
  have hn := cnt_nonneg fs
  have hcl := cnt_len fs
  have hlx := err_of_ok hl
  dsimp only at hlx
  have hl' := hl
  unfold Ln.ok at hl'
  dsimp only at hl'
  have hr1 : 1 ≤ r ∧ r ≤ 3 := by omega
  have he1 : 2 ≤ e ∧ e ≤ 360 := by omega
  have hd : e ∣ 720 := Int.dvd_of_emod_eq_zero (by omega)
  have hc1 : 0 ≤ c ∧ 2 * c < e := by omega
  have hv : (corrVal ⟨r, e, c⟩ (cntA fs) (cntB fs)).1 = if r = 2 then decide (cntA fs ≤ c) else decide (max (cntA fs) (cntB fs) ≤ c) := by
    simp only [corrVal, hlx]
    rw [if_neg (by simp), if_neg (by simp [btw_iff.2 ⟨hn.1, show cntA fs ≤ 20 by omega⟩, btw_iff.2 ⟨hn.2, show cntB fs ≤ 20 by omega⟩]), if_neg hr]
    split <;> rfl
  rw [hv] at hc
  have hst : start ⟨r, e, c⟩ (f % 720) f = ⟨f % 720, 0⟩ := by unfold start; rw [if_neg hr]; simp [hf]
  obtain ⟨m, rfl⟩ : ∃ m : Nat, e = m + 1 := ⟨(e - 1).toNat, by omega⟩
  have hs := chk_sorted h
  have hcount := mvN_count (f := f) (m := m) hs.1 (fun x hx => by have := hs.2 x hx; omega)
  have hone : movesAt fs (f + m + 1) = 1 := by
    unfold movesAt
    rw [List.find?_eq_none.2 (fun x hx => by have := (hs.2 x hx); simp; omega)]
  have hlg : (f + m + 1) % ((m : Int) + 1) = 0 := by
    rw [Int.add_assoc, Int.add_emod, hf, Int.emod_self]; rfl
  have hL : isLong ⟨r, (m : Int) + 1, c⟩ (f + m + 1) = true := by simp [isLong, hlg]; omega
  rw [hst, show ((m : Int) + 1).toNat = m + 1 by omega, runN, hone]
  generalize hM : mvN fs f m = M at hcount
  have key : ∀ x k : Int, 0 ≤ x → x ≤ 1000 → cby ⟨r, (m : Int) + 1, c⟩ ⟨((f + x) % 720 + 1) % 720, k + 1⟩ = m - x → -c ≤ m - x → m - x ≤ c → right ⟨r, (m : Int) + 1, c⟩ (f + ((m : Int) + 1)) (imp ⟨r, (m : Int) + 1, c⟩ (f + m + 1) 1 ⟨(f + x) % 720, k⟩) := by
    intro x k h0 h1 hby g1 g2
    have hmv : mvs ⟨r, (m : Int) + 1, c⟩ true 1 ⟨(f + x) % 720, k⟩ = ⟨((f + x) % 720 + 1) % 720, k + 1⟩ := by simp [mvs, mv]
    unfold imp
    rw [if_pos hL, hmv]
    unfold cor
    rw [hby, if_pos ⟨g1, g2⟩]
    refine ⟨?_, fun _ => ?_⟩
    · dsimp only; omega
    · rw [show f + ((m : Int) + 1) = f + m + 1 by omega, hlg]
  have hsm : ∀ x : Int, ((f + x) % 720 + 1) % 720 % ((m : Int) + 1) = (x + 1) % ((m : Int) + 1) := fun x => by
    rw [show ((f + x) % 720 + 1) % 720 = (f + (x + 1)) % 720 by omega, Int.emod_emod_of_dvd _ hd, Int.add_emod, hf, Int.zero_add, Int.emod_emod]
  by_cases h2 : r = 2
  · subst h2
    rw [if_pos rfl, decide_eq_true_eq] at hc
    obtain ⟨k, hk, hM0⟩ := wait_run (c := c) (fs := fs) hd he1.1 hf m (by omega)
    rw [hM] at hk hM0
    rw [hk, show (m : Int) + 1 - 1 = m by omega]
    refine key (min m M) k (by omega) (by omega) ?_ (by omega) (by omega)
    unfold cby
    dsimp only
    rw [if_neg (by omega), if_pos rfl, hsm]
    by_cases q : min (m : Int) M = m
    · rw [q, Int.emod_self]; simp
    · rw [Int.emod_eq_of_lt (a := min (m : Int) M + 1) (by omega) (by omega), Int.emod_eq_of_lt (by omega) (by omega)]; omega
  · rw [if_neg h2, decide_eq_true_eq] at hc
    rw [free_run h2 hf m (by omega), hM]
    refine key M M (by omega) (by omega) ?_ (by omega) (by omega)
    unfold cby
    dsimp only
    rw [hsm]
    by_cases h1 : r = 1
    · rw [if_pos h1]
      by_cases q : M < m
      · rw [Int.emod_eq_of_lt (a := M + 1) (by omega) (by omega), if_neg (by omega)]; omega
      · rw [show M + 1 = (M - m) + ((m : Int) + 1) * 1 by omega, Int.add_mul_emod_self_left, Int.emod_eq_of_lt (a := M - m) (by omega) (by omega), if_pos (by omega)]; omega
    · rw [if_neg h1, if_neg h2]; omega
end Pu
end Go.Proofs.Ytpjlihkpnhamlaa
end

/- The walk of the reference's Back: minute by minute. -/
section
set_option linter.unusedSimpArgs false
set_option linter.unusedVariables false
namespace Go.Proofs.Ytpjlihkpnhamlaa
open Go.RowKit Go.Shelf

namespace Pu
/-- from when on a dial is right, by the reference, behind k impulses -/
def backR (l : Ln) (f : Int) (fs : List (Int × Int)) (d : Dl) (last : Int) : Nat → Int
  | 0 => last
  | k + 1 => if last ≤ f + k + 1 ∧ (runN l f fs d (k + 1)).s ≠ (f + k + 1) % 720 then f + k + 1 + 1 else backR l f fs d last k
theorem back_eq {l : Ln} {U f : Int} {fs : List (Int × Int)} {d : Dl} {last : Int} (h : chkFs l U f fs = true) : ∀ k : Nat, backAt l f fs d last k = backR l f fs d last k
  | 0 => rfl
  | k + 1 => by rw [backAt, backR, fol_run h, back_eq h k]
theorem backR_btw {l : Ln} {f : Int} {fs : List (Int × Int)} {d : Dl} {last : Int} (h : f ≤ last) : ∀ k : Nat, last ≤ backR l f fs d last k ∧ (backR l f fs d last k ≤ last ∨ backR l f fs d last k ≤ f + k + 1)
  | 0 => by simp [backR]
  | k + 1 => by
    have := backR_btw (l := l) (fs := fs) (d := d) h k
    rw [backR]
    split <;> omega
theorem start_s {l : Ln} {s t : Int} : (start l s t).s = s := by unfold start; split <;> rfl
end Pu

theorem last_key {f last : Int} {a : Option Addr} {fs : List (Int × Int)} {w : World} (hf : IsPairs w a fs) (hl : Pu.lastF f fs = last) :
    (0 < fs.length ∧ ∃ b o, a = some ⟨b, o, none⟩ ∧ b < w.heap.size ∧ w.cell? ⟨b, o + (fs.length - 1) * 2, none⟩ = some (.int .i64 last) ∧ ((fs.length : Int) - 1).toNat = fs.length - 1) ∨ (fs.length = 0 ∧ last = f) := by
  by_cases hn : 0 < fs.length
  · obtain ⟨b, o, q1, q2, q3, _⟩ := hf.2 (fs.length - 1) (by omega)
    rw [← Pu.lastF_get (f := f) hn, hl] at q3
    exact .inl ⟨hn, b, o, q1, q2, q3, by omega⟩
  · have : fs = [] := by cases fs <;> simp_all
    refine .inr ⟨by omega, ?_⟩
    rw [← hl, this]; rfl

/-- between two rounds -/
def RefBackRel (r e c f last : Int) (fs : List (Int × Int)) (d : Pu.Dl) (U : Int) (LB DB : Nat) (w : World) (x i : Value) (wr : World) : Prop :=
  ∃ (n : Nat), (n : Int) ≤ U + 1 - f ∧ i = .int .i64 (f + n) ∧ x = .int .i64 (Pu.backR ⟨r, e, c⟩ f fs d last (n - 1)) ∧ Below w.heap.size w wr ∧ DB < wr.heap.size ∧ LB < wr.heap.size ∧ Blk wr DB #[.int .i64 (Pu.runN ⟨r, e, c⟩ f fs d (n - 1)).s, .int .i64 (Pu.runN ⟨r, e, c⟩ f fs d (n - 1)).k] 37 ∧
    Blk wr LB #[.int .i64 r, .int .i64 e, .int .i64 c] 24

set_option maxHeartbeats 4000000 in
theorem refBack_any (r e c f : Int) (a : Option Addr) (cp : Nat) (fs : List (Int × Int)) (w : World) (h : (Pu.Ln.mk r e c).ok) (hf : IsPairs w a fs) (f0 : 0 ≤ f) (f1 : f ≤ 100000) (hk : Pu.chkFs ⟨r, e, c⟩ (f + 5000) f fs = true) (hl20 : fs.length ≤ 20) (last : Int) (hlast : Pu.lastF f fs = last) (d : Pu.Dl) (hd : Pu.start ⟨r, e, c⟩ (f % 720) f = d) (A : Int) (hA : Pu.backR ⟨r, e, c⟩ f fs d last (last + 3 * e - f).toNat = A) :
    Calls Try.prog 22 #[.agg #[.int .i64 r, .int .i64 e, .int .i64 c], .int .i64 f, .slice a fs.length cp] w
      (Ret w (.tuple #[.int .i64 A, .bool (decide (A ≤ last + 3 * e))])) := by
  have hl := Pu.lastF_btw hk (by omega)
  rw [hlast] at hl
  have hE := Pu.ok_e h
  dsimp only at hE
  have key := last_key hf hlast
  have HF := Lib.hid hf; clear hf
  have hm720 : 0 ≤ f % 720 ∧ f % 720 < 720 := by omega
  have HN := Lib.hid (fun W => refNew_any r e c (f % 720) f W h f0)
  have hso := Pu.start_ok (s := f % 720) (t := f) h hm720.1 hm720.2 f0
  have hs0 : (Pu.start ⟨r, e, c⟩ (f % 720) f).s = f % 720 := Pu.start_s
  rw [hd] at HN hso hs0
  rw [show f % 720 = f.tmod 720 from (Int.tmod_eq_emod_of_nonneg f0).symm] at HN
  obtain ⟨s0, k0⟩ := d
  dsimp only at HN hs0
  have HI := Lib.hid (fun W s k t (m : Nat) (hd : Pu.Dl.ok 500000000 ⟨s, k⟩) (ht : 0 ≤ t) (hm : m ≤ 2) => refImpulse_any r e c s k t m W h ht hm hd.1 hd.2.1 hd.2.2.1 hd.2.2.2)
  have HM := Lib.hid (fun W t (hW : Below w.heap.size w W) => refMoves_any a cp fs t W (HF.out.below hW))
  have HO := Lib.hid (Pu.runN_ok (l := ⟨r, e, c⟩) (f := f) (fs := fs) (d := ⟨s0, k0⟩) (B := 360) hso (by omega))
  have HA := Lib.hid hA; have HS := Lib.hid hs0
  have hwr : IntKind.i64.wrap (last + IntKind.i64.wrap (3 * e)) = last + 3 * e := by rw [IntKind.wrap_i64, IntKind.wrap_i64]; omega
  clear h hk hlast hd hso hA hs0
  rcases key with ⟨hn, b, o, rfl, q2, q3, hli⟩ | ⟨hn, hlf⟩
  case' inl =>
    have g3 : ∀ w1 : World, Below w.heap.size w w1 → w1.cell? ⟨b, o + (fs.length - 1) * 2, none⟩ = some (.int .i64 last) := fun w1 hb => (hb.cell (p := ⟨b, _, none⟩) q2).trans q3
    go_enter Try.func22, Try.ntmps22
    go_wp2_with fail
    refine wp_name ?_
    intro W hW
    have BL : Blk W w.heap.size #[.int .i64 r, .int .i64 e, .int .i64 c] 24 := by rw [hW]; exact (by repeat first | exact blk_at (by first | rfl | omega | (simp; done) | (simp; omega)) | assumption | refine Blk.alloc ?_ _ | refine Blk.drew ?_ | refine Blk.drewN ?_ _ | (refine Blk.other ?_ _ (by first | omega | (simp; done) | (simp; omega))) | (refine Blk.below ?_ (by assumption)))
    have ZW : Below w.heap.size w W := by rw [hW]; exact (by repeat first | exact Below.refl _ _ | assumption | (refine Below.alloc ?_ (by first | omega | (simp; done) | (simp; omega)) _) | (refine Below.setCell ?_ (by first | omega | (simp; done) | (simp; omega)) _) | (refine Below.drew ?_) | (refine belowDrewN ?_) | (refine Below.trans ?_ (Below.mono (by assumption) (by first | omega | (simp; done) | (simp; omega)))))
    clear hW
  case' inr =>
    subst hlf
    have hn' : ¬ 0 < fs.length := by omega
    clear hn
    go_enter Try.func22, Try.ntmps22
    go_wp2_with fail
    refine wp_name ?_
    intro W hW
    have BL : Blk W w.heap.size #[.int .i64 r, .int .i64 e, .int .i64 c] 24 := by rw [hW]; exact (by repeat first | exact blk_at (by first | rfl | omega | (simp; done) | (simp; omega)) | assumption | refine Blk.alloc ?_ _ | refine Blk.drew ?_ | refine Blk.drewN ?_ _ | (refine Blk.other ?_ _ (by first | omega | (simp; done) | (simp; omega))) | (refine Blk.below ?_ (by assumption)))
    have ZW : Below w.heap.size w W := by rw [hW]; exact (by repeat first | exact Below.refl _ _ | assumption | (refine Below.alloc ?_ (by first | omega | (simp; done) | (simp; omega)) _) | (refine Below.setCell ?_ (by first | omega | (simp; done) | (simp; omega)) _) | (refine Below.drew ?_) | (refine belowDrewN ?_) | (refine Below.trans ?_ (Below.mono (by assumption) (by first | omega | (simp; done) | (simp; omega)))))
    clear hW
  case inr =>
    have HALL := Lib.hid (And.intro hl (And.intro hE (And.intro hm720 (And.intro hwr ZW))))
    clear hl20 hl hE hm720 ZW
    have x0 := BL.cell 0 rfl; have x1 := BL.cell 1 rfl; have x2 := BL.cell 2 rfl
    have lL := BL.lt
    have z0 : W.drew.cell? ⟨w.heap.size, 0, none⟩ = some (.int .i64 r) := x0
    have z1 : W.drew.cell? ⟨w.heap.size, 1, none⟩ = some (.int .i64 e) := x1
    have z2 : W.drew.cell? ⟨w.heap.size, 2, none⟩ = some (.int .i64 c) := x2
    go_region_held3 (fun w' => w'.cell? ⟨w.heap.size, 0, none⟩ = some (.int .i64 r) ∧ w'.cell? ⟨w.heap.size, 1, none⟩ = some (.int .i64 e) ∧ w'.cell? ⟨w.heap.size, 2, none⟩ = some (.int .i64 c)) (first | (with_reducible exact ⟨x0, x1, x2⟩) | (with_reducible exact ⟨z0, z1, z2⟩) | (with_reducible exact ⟨y0, y1, y2⟩) | (go_keep; done) | (refine ⟨Blk.cell (vs := #[.int .i64 r, .int .i64 e, .int .i64 c]) (t := 24) ?_ 0 rfl, Blk.cell (vs := #[.int .i64 r, .int .i64 e, .int .i64 c]) (t := 24) ?_ 1 rfl, Blk.cell (vs := #[.int .i64 r, .int .i64 e, .int .i64 c]) (t := 24) ?_ 2 rfl⟩ <;> exact (by repeat first | exact blk_at (by first | rfl | omega | (simp; done) | (simp; omega)) | assumption | refine Blk.alloc ?_ _ | refine Blk.drew ?_ | refine Blk.drewN ?_ _ | (refine Blk.other ?_ _ (by first | omega | (simp; done) | (simp; omega))) | (refine Blk.below ?_ (by assumption)))))
      (first | (go_at_call 19; go_must (refine (HN.out _).mono ?_); rintro en w1 ⟨rfl, hb1⟩; go_must (first | ((with_reducible have hA : Below W.drew.heap.size W.drew w1 := hb1); have BY := BL.drew.below hA; have hN : Below W.heap.size W w1 := (Below.refl _ W).drew.trans hA) | ((with_reducible have hA : Below (W.alloc (.cells #[.int .i64 0, .int .i64 0] 37)).drew.heap.size (W.alloc (.cells #[.int .i64 0, .int .i64 0] 37)).drew w1 := hb1); have BY := (BL.alloc _).drew.below hA; have nb := (Blk.new W #[.int .i64 0, .int .i64 0] 37).drew.below hA; have nf := nb.free; have nc0 := nb.cell 0 rfl; have nc1 := nb.cell 1 rfl; have hN : Below W.heap.size W w1 := ((Below.refl _ W).alloc (Nat.le_refl _) _).drew.trans (hA.mono (by simp)))); have y0 := BY.cell 0 rfl; have y1 := BY.cell 1 rfl; have y2 := BY.cell 2 rfl; have yl := BY.lt))
    all_goals (
      obtain ⟨hl, hE, hm720, hwr, ZW⟩ := HALL.out
      have Z1 : Below w.heap.size w w1 := ZW.trans (hN.mono ZW.size)
      have hzN := hN.size
      have hzW := ZW.size
      go_wp2_with fail
      refine wp_name ?_
      intro W2 hW2
      try rw [hwr]
      first
        | (have DQ : Blk W2 W.heap.size #[.int .i64 s0, .int .i64 k0] 37 := (by rw [hW2]; exact (nb.set 0 _).set 1 _)
           have LQ : Blk W2 w.heap.size #[.int .i64 r, .int .i64 e, .int .i64 c] 24 := (by rw [hW2]; exact (BY.other _ (by dsimp only; omega)).other _ (by dsimp only; omega))
           have Z2 : Below w.heap.size w W2 := (by rw [hW2]; exact (Z1.setCell (by dsimp only; omega) _).setCell (by dsimp only; omega) _)
           have hlt := lL
           clear hW2 nb nf nc0 nc1 y0 y1 y2 z0 z1 z2 x0 x1 x2 hN hA hb1 BY BL ZW Z1 hzN hzW lL yl
           obtain ⟨DB, hDB⟩ : ∃ DB, W.heap.size = DB := ⟨_, rfl⟩
           rw [hDB] at DQ hlt ⊢)
        | (have DQ : Blk W2 w1.heap.size #[.int .i64 s0, .int .i64 k0] 37 := (by rw [hW2]; exact Blk.new _ _ _)
           have LQ : Blk W2 w.heap.size #[.int .i64 r, .int .i64 e, .int .i64 c] 24 := (by rw [hW2]; exact BY.alloc _)
           have Z2 : Below w.heap.size w W2 := (by rw [hW2]; exact Z1.alloc (by omega) _)
           have hlt := yl
           clear hW2 y0 y1 y2 z0 z1 z2 x0 x1 x2 hN hA hb1 BY BL ZW Z1 hzN hzW lL yl
           obtain ⟨DB, hDB⟩ : ∃ DB, w1.heap.size = DB := ⟨_, rfl⟩
           rw [hDB] at DQ hlt ⊢)
      clear hDB hwr
      go_loopw [10, 12] (fun x i wr => RefBackRel r e c last last fs ⟨s0, k0⟩ (last + 3 * e) w.heap.size DB w x i wr) (fun _ i _ => (last + 3 * e + 1 - intOf i).toNat)
      case atStart => exact ⟨0, by omega, by go_num, rfl, Z2, DQ.lt, LQ.lt, DQ, LQ⟩)
    all_goals (
      have f0' : 0 ≤ last := f0
      obtain ⟨n, hnn, hi, hx, hb, hzD, hzL, bD, bL⟩ := hrel
      clear DQ LQ Z2
      by_cases hin : last + n ≤ last + 3 * e
      · rcases Nat.eq_zero_or_pos n with h0 | hp
        · subst h0
          have e1 : u12 = .int .i64 last := by rw [hi]; go_num
          have e2 : u10 = .int .i64 last := hx
          have hs0 := HS.out
          subst e1 e2 hs0
          clear hi hx
          have c0 : wr.cell? ⟨DB, 0, none⟩ = some (.int .i64 (last % 720)) := bD.cell 0 rfl
          have ht0 : (last).tmod 720 = last % 720 := Int.tmod_eq_emod_of_nonneg f0'
          have hnlt : ¬ last < last := by omega
          by_cases hge : last ≤ last
          all_goals go_wp2
          all_goals first | (exfalso; omega) | exact ⟨⟨1, by omega, by go_num, rfl, (by repeat first | exact Below.refl _ _ | assumption | (refine Below.alloc ?_ (by first | omega | (simp; done) | (simp; omega)) _) | (refine Below.setCell ?_ (by first | omega | (simp; done) | (simp; omega)) _) | (refine Below.drew ?_) | (refine belowDrewN ?_) | (refine Below.trans ?_ (Below.mono (by assumption) (by first | omega | (simp; done) | (simp; omega))))), hzD, hzL, bD, bL⟩, by simp [intOf]; omega⟩
        · obtain ⟨m, rfl⟩ : ∃ m, n = m + 1 := ⟨n - 1, by omega⟩
          have e1 : u12 = .int .i64 (last + m + 1) := by rw [hi]; go_num
          have ho := HO.out m
          simp only [Nat.add_sub_cancel] at hx bD
          obtain ⟨A0, hA0⟩ : ∃ A0, Pu.backR ⟨r, e, c⟩ last fs ⟨s0, k0⟩ last m = A0 := ⟨_, rfl⟩
          obtain ⟨R, hR⟩ : ∃ R, Pu.runN ⟨r, e, c⟩ last fs ⟨s0, k0⟩ m = R := ⟨_, rfl⟩
          have hbt := Pu.backR_btw (l := ⟨r, e, c⟩) (fs := fs) (d := ⟨s0, k0⟩) hl.1 m
          rw [hA0] at hx hbt
          rw [hR] at ho bD
          obtain ⟨s1, k1⟩ := R
          obtain ⟨D', hD'⟩ : ∃ D', Pu.imp ⟨r, e, c⟩ (last + m + 1) (Pu.movesAt fs (last + m + 1)) ⟨s1, k1⟩ = D' := ⟨_, rfl⟩
          have hDm : Pu.runN ⟨r, e, c⟩ last fs ⟨s0, k0⟩ (m + 1) = D' := by rw [Pu.runN, hR]; exact hD'
          have hBK : Pu.backR ⟨r, e, c⟩ last fs ⟨s0, k0⟩ last (m + 1) = if last ≤ last + m + 1 ∧ D'.s ≠ (last + m + 1) % 720 then last + m + 1 + 1 else A0 := by rw [Pu.backR, hDm, hA0]
          have hmm : (m : Int) ≤ 6100 := by omega
          have HI2 := Lib.hid (fun W => (hD' ▸ HI.out W s1 k1 (last + m + 1) (Pu.movesAt fs (last + m + 1)) ⟨ho.1, ho.2.1, ho.2.2.1, by have := ho.2.2.2; dsimp only at this ⊢; omega⟩ (by omega) (Pu.movesAt_le _ _) : Calls Try.prog 43 #[.agg #[.int .i64 s1, .int .i64 k1], .agg #[.int .i64 r, .int .i64 e, .int .i64 c], .int .i64 (last + m + 1), .int .i64 (Pu.movesAt fs (last + m + 1))] W (Ret W (.agg #[.int .i64 (D').s, .int .i64 (D').k]))))
          obtain ⟨s', k'⟩ := D'
          subst e1 hx
          clear hi ho hR hD' hA0 hp
          have HBK := Lib.hid hBK; have HDM := Lib.hid hDm
          clear hBK hDm
          have x00 := bD.later 0 rfl; have x01 := bD.later 1 rfl
          have x10 := bL.later 0 rfl; have x11 := bL.later 1 rfl; have x12 := bL.later 2 rfl
          have ht0 : (last + m + 1).tmod 720 = (last + m + 1) % 720 := Int.tmod_eq_emod_of_nonneg (by omega)
          have hgt : last < last + m + 1 := by omega
          go_wp2_with fail
          (refine wp_region_tail 7 (by kernel_rfl) (by kernel_rfl) ?_; simp only [List.take_succ_cons, List.take_zero, List.drop_succ_cons, List.drop_zero]; (repeat (any_goals (first | go_big_quiet_step ((first | (go_at_call 44; exact later_call (HM.out _ _ (later_trans hb _))) | (go_at_call 43; exact later_call (HI2.out _)))) | quiet_step ((first | (go_at_call 44; exact later_call (HM.out _ _ (later_trans hb _))) | (go_at_call 43; exact later_call (HI2.out _)))) | (refine wpQuiet_step (fun K hK => ?_); go_simp; split <;> (refine hK _ ?_; clear hK K))))); (all_goals (refine wpQuiet_nil ?_; intro wq hw'; obtain ⟨⟨_, hbq⟩, hw''⟩ := hw'; subst hw'')))
          have bD' := bD.below hbq; have bL' := bL.below hbq
          have hzq := hbq.size
          have g0 := bD'.free
          have c00 := bD'.cell 0 rfl; have c01 := bD'.cell 1 rfl
          have hbb : Below w.heap.size w wq := hb.trans (hbq.mono hb.size)
          clear x00 x01 x10 x11 x12
          by_cases hge : last ≤ last + m + 1
          all_goals rcases Decidable.em (s' = (last + m + 1) % 720) with rfl | hc
          all_goals go_wp2
          all_goals first | (exfalso; omega) | skip
          all_goals (
            refine ⟨⟨m + 2, by omega, by go_num, ?_, (by repeat first | exact Below.refl _ _ | assumption | (refine Below.alloc ?_ (by first | omega | (simp; done) | (simp; omega)) _) | (refine Below.setCell ?_ (by first | omega | (simp; done) | (simp; omega)) _) | (refine Below.drew ?_) | (refine belowDrewN ?_) | (refine Below.trans ?_ (Below.mono (by assumption) (by first | omega | (simp; done) | (simp; omega))))), by simp; omega, by simp; omega, ?_, ?_⟩, by simp [intOf]; omega⟩
            · show _ = Value.int .i64 (Pu.backR ⟨r, e, c⟩ last fs ⟨s0, k0⟩ last (m + 1))
              rw [HBK.out]; simp [*]
            · show Blk _ DB #[.int .i64 (Pu.runN ⟨r, e, c⟩ last fs ⟨s0, k0⟩ (m + 1)).s, .int .i64 (Pu.runN ⟨r, e, c⟩ last fs ⟨s0, k0⟩ (m + 1)).k] _
              rw [HDM.out]; exact (bD'.set 0 _).set 1 _
            · exact (bL'.other _ (by first | omega | (simp; done) | (simp; omega))).other _ (by first | omega | (simp; done) | (simp; omega)))
      · have hn' : (last + 3 * e - last).toNat = n - 1 := by omega
        have hA2 := HA.out
        rw [hn'] at hA2
        rw [hA2] at hx
        have e1 : u12 = .int .i64 (last + n) := hi
        subst e1 hx
        have hbt := Pu.backR_btw (l := ⟨r, e, c⟩) (fs := fs) (d := ⟨s0, k0⟩) hl.1 (n - 1)
        clear hn' hA2 hi
        go_wp2_with fail
        (refine bodyPost_ret (v := (.tuple #[.int .i64 A, .bool (decide (A ≤ last + 3 * e))])) ?_ rfl (ret_any rfl (by repeat first | exact Below.refl _ _ | assumption | (refine Below.alloc ?_ (by first | omega | (simp; done) | (simp; omega)) _) | (refine Below.setCell ?_ (by first | omega | (simp; done) | (simp; omega)) _) | (refine Below.drew ?_) | (refine belowDrewN ?_) | (refine Below.trans ?_ (Below.mono (by assumption) (by first | omega | (simp; done) | (simp; omega)))))); (simp (maxDischargeDepth := 9) [results, Try.results22, go_sem, *]); (try simp only [beq_iff_eq, beq_eq_false_iff_ne, bne_iff_ne, bne_eq_false_iff_eq, ne_eq, Bool.not_eq_true, Bool.not_eq_true', Bool.not_eq_false', btw_iff, btw_not', Int.not_lt, Int.not_le] at *); skip))
  case inl =>
    have HALL := Lib.hid (And.intro hl (And.intro hE (And.intro hm720 (And.intro hwr ZW))))
    clear hl20 hl hE hm720 ZW
    have x0 := BL.cell 0 rfl; have x1 := BL.cell 1 rfl; have x2 := BL.cell 2 rfl
    have lL := BL.lt
    have z0 : W.drew.cell? ⟨w.heap.size, 0, none⟩ = some (.int .i64 r) := x0
    have z1 : W.drew.cell? ⟨w.heap.size, 1, none⟩ = some (.int .i64 e) := x1
    have z2 : W.drew.cell? ⟨w.heap.size, 2, none⟩ = some (.int .i64 c) := x2
    go_region_held3 (fun w' => w'.cell? ⟨w.heap.size, 0, none⟩ = some (.int .i64 r) ∧ w'.cell? ⟨w.heap.size, 1, none⟩ = some (.int .i64 e) ∧ w'.cell? ⟨w.heap.size, 2, none⟩ = some (.int .i64 c)) (first | (with_reducible exact ⟨x0, x1, x2⟩) | (with_reducible exact ⟨z0, z1, z2⟩) | (with_reducible exact ⟨y0, y1, y2⟩) | (go_keep; done) | (refine ⟨Blk.cell (vs := #[.int .i64 r, .int .i64 e, .int .i64 c]) (t := 24) ?_ 0 rfl, Blk.cell (vs := #[.int .i64 r, .int .i64 e, .int .i64 c]) (t := 24) ?_ 1 rfl, Blk.cell (vs := #[.int .i64 r, .int .i64 e, .int .i64 c]) (t := 24) ?_ 2 rfl⟩ <;> exact (by repeat first | exact blk_at (by first | rfl | omega | (simp; done) | (simp; omega)) | assumption | refine Blk.alloc ?_ _ | refine Blk.drew ?_ | refine Blk.drewN ?_ _ | (refine Blk.other ?_ _ (by first | omega | (simp; done) | (simp; omega))) | (refine Blk.below ?_ (by assumption)))))
      (first | (go_at_call 19; go_must (refine (HN.out _).mono ?_); rintro en w1 ⟨rfl, hb1⟩; go_must (first | ((with_reducible have hA : Below W.drew.heap.size W.drew w1 := hb1); have BY := BL.drew.below hA; have hN : Below W.heap.size W w1 := (Below.refl _ W).drew.trans hA) | ((with_reducible have hA : Below (W.alloc (.cells #[.int .i64 0, .int .i64 0] 37)).drew.heap.size (W.alloc (.cells #[.int .i64 0, .int .i64 0] 37)).drew w1 := hb1); have BY := (BL.alloc _).drew.below hA; have nb := (Blk.new W #[.int .i64 0, .int .i64 0] 37).drew.below hA; have nf := nb.free; have nc0 := nb.cell 0 rfl; have nc1 := nb.cell 1 rfl; have hN : Below W.heap.size W w1 := ((Below.refl _ W).alloc (Nat.le_refl _) _).drew.trans (hA.mono (by simp)))); have y0 := BY.cell 0 rfl; have y1 := BY.cell 1 rfl; have y2 := BY.cell 2 rfl; have yl := BY.lt))
    all_goals (
      obtain ⟨hl, hE, hm720, hwr, ZW⟩ := HALL.out
      have Z1 : Below w.heap.size w w1 := ZW.trans (hN.mono ZW.size)
      have hzN := hN.size
      have hzW := ZW.size
      go_wp2_with fail
      refine wp_name ?_
      intro W2 hW2
      try rw [hwr]
      first
        | (have DQ : Blk W2 W.heap.size #[.int .i64 s0, .int .i64 k0] 37 := (by rw [hW2]; exact (nb.set 0 _).set 1 _)
           have LQ : Blk W2 w.heap.size #[.int .i64 r, .int .i64 e, .int .i64 c] 24 := (by rw [hW2]; exact (BY.other _ (by dsimp only; omega)).other _ (by dsimp only; omega))
           have Z2 : Below w.heap.size w W2 := (by rw [hW2]; exact (Z1.setCell (by dsimp only; omega) _).setCell (by dsimp only; omega) _)
           have hlt := lL
           clear hW2 nb nf nc0 nc1 y0 y1 y2 z0 z1 z2 x0 x1 x2 hN hA hb1 BY BL ZW Z1 hzN hzW lL yl
           obtain ⟨DB, hDB⟩ : ∃ DB, W.heap.size = DB := ⟨_, rfl⟩
           rw [hDB] at DQ hlt ⊢)
        | (have DQ : Blk W2 w1.heap.size #[.int .i64 s0, .int .i64 k0] 37 := (by rw [hW2]; exact Blk.new _ _ _)
           have LQ : Blk W2 w.heap.size #[.int .i64 r, .int .i64 e, .int .i64 c] 24 := (by rw [hW2]; exact BY.alloc _)
           have Z2 : Below w.heap.size w W2 := (by rw [hW2]; exact Z1.alloc (by omega) _)
           have hlt := yl
           clear hW2 y0 y1 y2 z0 z1 z2 x0 x1 x2 hN hA hb1 BY BL ZW Z1 hzN hzW lL yl
           obtain ⟨DB, hDB⟩ : ∃ DB, w1.heap.size = DB := ⟨_, rfl⟩
           rw [hDB] at DQ hlt ⊢)
      clear hDB hwr
      go_loopw [10, 12] (fun x i wr => RefBackRel r e c f last fs ⟨s0, k0⟩ (last + 3 * e) w.heap.size DB w x i wr) (fun _ i _ => (last + 3 * e + 1 - intOf i).toNat)
      case atStart => exact ⟨0, by omega, by go_num, rfl, Z2, DQ.lt, LQ.lt, DQ, LQ⟩)
    all_goals (
      have f0' : 0 ≤ f := f0
      obtain ⟨n, hnn, hi, hx, hb, hzD, hzL, bD, bL⟩ := hrel
      clear DQ LQ Z2
      by_cases hin : f + n ≤ last + 3 * e
      · rcases Nat.eq_zero_or_pos n with h0 | hp
        · subst h0
          have e1 : u12 = .int .i64 f := by rw [hi]; go_num
          have e2 : u10 = .int .i64 last := hx
          have hs0 := HS.out
          subst e1 e2 hs0
          clear hi hx
          have c0 : wr.cell? ⟨DB, 0, none⟩ = some (.int .i64 (f % 720)) := bD.cell 0 rfl
          have ht0 : (f).tmod 720 = f % 720 := Int.tmod_eq_emod_of_nonneg f0'
          have hnlt : ¬ f < f := by omega
          by_cases hge : last ≤ f
          all_goals go_wp2
          all_goals first | (exfalso; omega) | exact ⟨⟨1, by omega, by go_num, rfl, (by repeat first | exact Below.refl _ _ | assumption | (refine Below.alloc ?_ (by first | omega | (simp; done) | (simp; omega)) _) | (refine Below.setCell ?_ (by first | omega | (simp; done) | (simp; omega)) _) | (refine Below.drew ?_) | (refine belowDrewN ?_) | (refine Below.trans ?_ (Below.mono (by assumption) (by first | omega | (simp; done) | (simp; omega))))), hzD, hzL, bD, bL⟩, by simp [intOf]; omega⟩
        · obtain ⟨m, rfl⟩ : ∃ m, n = m + 1 := ⟨n - 1, by omega⟩
          have e1 : u12 = .int .i64 (f + m + 1) := by rw [hi]; go_num
          have ho := HO.out m
          simp only [Nat.add_sub_cancel] at hx bD
          obtain ⟨A0, hA0⟩ : ∃ A0, Pu.backR ⟨r, e, c⟩ f fs ⟨s0, k0⟩ last m = A0 := ⟨_, rfl⟩
          obtain ⟨R, hR⟩ : ∃ R, Pu.runN ⟨r, e, c⟩ f fs ⟨s0, k0⟩ m = R := ⟨_, rfl⟩
          have hbt := Pu.backR_btw (l := ⟨r, e, c⟩) (fs := fs) (d := ⟨s0, k0⟩) hl.1 m
          rw [hA0] at hx hbt
          rw [hR] at ho bD
          obtain ⟨s1, k1⟩ := R
          obtain ⟨D', hD'⟩ : ∃ D', Pu.imp ⟨r, e, c⟩ (f + m + 1) (Pu.movesAt fs (f + m + 1)) ⟨s1, k1⟩ = D' := ⟨_, rfl⟩
          have hDm : Pu.runN ⟨r, e, c⟩ f fs ⟨s0, k0⟩ (m + 1) = D' := by rw [Pu.runN, hR]; exact hD'
          have hBK : Pu.backR ⟨r, e, c⟩ f fs ⟨s0, k0⟩ last (m + 1) = if last ≤ f + m + 1 ∧ D'.s ≠ (f + m + 1) % 720 then f + m + 1 + 1 else A0 := by rw [Pu.backR, hDm, hA0]
          have hmm : (m : Int) ≤ 6100 := by omega
          have HI2 := Lib.hid (fun W => (hD' ▸ HI.out W s1 k1 (f + m + 1) (Pu.movesAt fs (f + m + 1)) ⟨ho.1, ho.2.1, ho.2.2.1, by have := ho.2.2.2; dsimp only at this ⊢; omega⟩ (by omega) (Pu.movesAt_le _ _) : Calls Try.prog 43 #[.agg #[.int .i64 s1, .int .i64 k1], .agg #[.int .i64 r, .int .i64 e, .int .i64 c], .int .i64 (f + m + 1), .int .i64 (Pu.movesAt fs (f + m + 1))] W (Ret W (.agg #[.int .i64 (D').s, .int .i64 (D').k]))))
          obtain ⟨s', k'⟩ := D'
          subst e1 hx
          clear hi ho hR hD' hA0 hp
          have HBK := Lib.hid hBK; have HDM := Lib.hid hDm
          clear hBK hDm
          have x00 := bD.later 0 rfl; have x01 := bD.later 1 rfl
          have x10 := bL.later 0 rfl; have x11 := bL.later 1 rfl; have x12 := bL.later 2 rfl
          have ht0 : (f + m + 1).tmod 720 = (f + m + 1) % 720 := Int.tmod_eq_emod_of_nonneg (by omega)
          have hgt : f < f + m + 1 := by omega
          go_wp2_with fail
          (refine wp_region_tail 7 (by kernel_rfl) (by kernel_rfl) ?_; simp only [List.take_succ_cons, List.take_zero, List.drop_succ_cons, List.drop_zero]; (repeat (any_goals (first | go_big_quiet_step ((first | (go_at_call 44; exact later_call (HM.out _ _ (later_trans hb _))) | (go_at_call 43; exact later_call (HI2.out _)))) | quiet_step ((first | (go_at_call 44; exact later_call (HM.out _ _ (later_trans hb _))) | (go_at_call 43; exact later_call (HI2.out _)))) | (refine wpQuiet_step (fun K hK => ?_); go_simp; split <;> (refine hK _ ?_; clear hK K))))); (all_goals (refine wpQuiet_nil ?_; intro wq hw'; obtain ⟨⟨_, hbq⟩, hw''⟩ := hw'; subst hw'')))
          have bD' := bD.below hbq; have bL' := bL.below hbq
          have hzq := hbq.size
          have g0 := bD'.free
          have c00 := bD'.cell 0 rfl; have c01 := bD'.cell 1 rfl
          have hbb : Below w.heap.size w wq := hb.trans (hbq.mono hb.size)
          clear x00 x01 x10 x11 x12
          by_cases hge : last ≤ f + m + 1
          all_goals rcases Decidable.em (s' = (f + m + 1) % 720) with rfl | hc
          all_goals go_wp2
          all_goals first | (exfalso; omega) | skip
          all_goals (
            refine ⟨⟨m + 2, by omega, by go_num, ?_, (by repeat first | exact Below.refl _ _ | assumption | (refine Below.alloc ?_ (by first | omega | (simp; done) | (simp; omega)) _) | (refine Below.setCell ?_ (by first | omega | (simp; done) | (simp; omega)) _) | (refine Below.drew ?_) | (refine belowDrewN ?_) | (refine Below.trans ?_ (Below.mono (by assumption) (by first | omega | (simp; done) | (simp; omega))))), by simp; omega, by simp; omega, ?_, ?_⟩, by simp [intOf]; omega⟩
            · show _ = Value.int .i64 (Pu.backR ⟨r, e, c⟩ f fs ⟨s0, k0⟩ last (m + 1))
              rw [HBK.out]; simp [*]
            · show Blk _ DB #[.int .i64 (Pu.runN ⟨r, e, c⟩ f fs ⟨s0, k0⟩ (m + 1)).s, .int .i64 (Pu.runN ⟨r, e, c⟩ f fs ⟨s0, k0⟩ (m + 1)).k] _
              rw [HDM.out]; exact (bD'.set 0 _).set 1 _
            · exact (bL'.other _ (by first | omega | (simp; done) | (simp; omega))).other _ (by first | omega | (simp; done) | (simp; omega)))
      · have hn' : (last + 3 * e - f).toNat = n - 1 := by omega
        have hA2 := HA.out
        rw [hn'] at hA2
        rw [hA2] at hx
        have e1 : u12 = .int .i64 (f + n) := hi
        subst e1 hx
        have hbt := Pu.backR_btw (l := ⟨r, e, c⟩) (fs := fs) (d := ⟨s0, k0⟩) hl.1 (n - 1)
        clear hn' hA2 hi
        go_wp2_with fail
        (refine bodyPost_ret (v := (.tuple #[.int .i64 A, .bool (decide (A ≤ last + 3 * e))])) ?_ rfl (ret_any rfl (by repeat first | exact Below.refl _ _ | assumption | (refine Below.alloc ?_ (by first | omega | (simp; done) | (simp; omega)) _) | (refine Below.setCell ?_ (by first | omega | (simp; done) | (simp; omega)) _) | (refine Below.drew ?_) | (refine belowDrewN ?_) | (refine Below.trans ?_ (Below.mono (by assumption) (by first | omega | (simp; done) | (simp; omega)))))); (simp (maxDischargeDepth := 9) [results, Try.results22, go_sem, *]); (try simp only [beq_iff_eq, beq_eq_false_iff_ne, bne_iff_ne, bne_eq_false_iff_eq, ne_eq, Bool.not_eq_true, Bool.not_eq_true', Bool.not_eq_false', btw_iff, btw_not', Int.not_lt, Int.not_le] at *); skip))
end Go.Proofs.Ytpjlihkpnhamlaa
end

/- What PulseAgain asks of Run, Back and Corrects: plain. -/
section
set_option linter.unusedSimpArgs false
set_option linter.unusedVariables false
namespace Go.Proofs.Ytpjlihkpnhamlaa
namespace Pu
theorem back_right {l : Ln} {f last : Int} {fs : List (Int × Int)} {d : Dl} (hd : d.s = f % 720) : ∀ (n k : Nat), k ≤ n → backR l f fs d last n ≤ f + k → last ≤ f + k → (runN l f fs d k).s = (f + k) % 720
  | 0, k, hk, hb, hl => by
    obtain rfl : k = 0 := by omega
    simpa [runN] using hd
  | n + 1, k, hk, hb, hl => by
    rw [backR] at hb
    by_cases q : last ≤ f + n + 1 ∧ (runN l f fs d (n + 1)).s ≠ (f + n + 1) % 720
    · rw [if_pos q] at hb; omega
    · rw [if_neg q] at hb
      rcases Nat.lt_or_ge k (n + 1) with h | h
      · exact back_right hd n k (by omega) hb hl
      · obtain rfl : k = n + 1 := by omega
        rw [show f + ((n + 1 : Nat) : Int) = f + n + 1 by omega]
        by_cases q2 : (runN l f fs d (n + 1)).s = (f + n + 1) % 720
        · exact q2
        · exact absurd ⟨by omega, q2⟩ q
theorem back_wrong {l : Ln} {f last : Int} {fs : List (Int × Int)} {d : Dl} (hfl : f ≤ last) : ∀ (n k : Nat), backR l f fs d last n = f + k + 1 → last ≤ f + k → (runN l f fs d k).s ≠ (f + k) % 720
  | 0, k, hb, hl => by rw [backR] at hb; omega
  | n + 1, k, hb, hl => by
    rw [backR] at hb
    by_cases q : last ≤ f + n + 1 ∧ (runN l f fs d (n + 1)).s ≠ (f + n + 1) % 720
    · rw [if_pos q] at hb
      obtain rfl : k = n + 1 := by omega
      rw [show f + ((n + 1 : Nat) : Int) = f + n + 1 by omega]
      exact q.2
    · rw [if_neg q] at hb
      exact back_wrong hfl n k hb hl
theorem back_le {l : Ln} {f last B : Int} {fs : List (Int × Int)} {d : Dl} (hl : last ≤ B) (h : ∀ k : Nat, B ≤ f + k → (runN l f fs d k).s = (f + k) % 720) : ∀ n : Nat, backR l f fs d last n ≤ B
  | 0 => by rw [backR]; exact hl
  | n + 1 => by
    rw [backR]
    by_cases q : last ≤ f + n + 1 ∧ (runN l f fs d (n + 1)).s ≠ (f + n + 1) % 720
    · rw [if_pos q]
      by_cases q2 : B ≤ f + n + 1
      · have := h (n + 1) (by omega)
        rw [show f + ((n + 1 : Nat) : Int) = f + n + 1 by omega] at this
        exact absurd this q.2
      · omega
    · rw [if_neg q]; exact back_le hl h n
theorem cor_k (l : Ln) (d : Dl) : (cor l d).k = 0 := by unfold cor; split <;> rfl

theorem again_facts {r e c f last : Int} {fs : List (Int × Int)} {v : Int × Int} {d : Dl} (hl : (Ln.mk r e c).ok) (hr : r ≠ 0) (f0 : 0 ≤ f) (f1 : f ≤ 100000) (hf : f % e = 0) (h : chkFs ⟨r, e, c⟩ (f + e - 1) f fs = true) (h20 : fs.length ≤ 20)
    (hv : backVal ⟨r, e, c⟩ f fs = v) (hlast : lastF f fs = last) (hd : start ⟨r, e, c⟩ (f % 720) f = d) :
    (f ≤ last ∧ last ≤ f + e - 1) ∧ (v.2 = 0 ∧ last ≤ v.1 ∧ v.1 ≤ last + 3 * e ∨ v.2 = 7 ∧ v.1 = 0) ∧ ((corrVal ⟨r, e, c⟩ (cntA fs) (cntB fs)).1 = true → v.2 = 0 ∧ v.1 ≤ f + 2 * e) ∧
    ∀ t, last ≤ t → t ≤ f + 3 * e → (v.2 = 0 → v.1 ≤ t → (runN ⟨r, e, c⟩ f fs d (t - f).toNat).s = t % 720) ∧ (v.2 = 0 → t = v.1 - 1 → (runN ⟨r, e, c⟩ f fs d (t - f).toNat).s ≠ t % 720) ∧ (v.2 = 7 → t = f + 3 * e → (runN ⟨r, e, c⟩ f fs d (t - f).toNat).s ≠ t % 720) := by
  have hl' := hl
  unfold Ln.ok at hl'
  dsimp only at hl'
  have he1 : 2 ≤ e ∧ e ≤ 360 := by omega
  have hlb := lastF_btw h (by omega)
  rw [hlast] at hlb
  have h5 : chkFs ⟨r, e, c⟩ (f + 5000) f fs = true := chk_upto h (by rw [hlast]; omega)
  have hds : d.s = f % 720 := by rw [← hd]; exact start_s
  obtain ⟨N, hN⟩ : ∃ N : Nat, (last + 3 * e - f).toNat = N := ⟨_, rfl⟩
  have hN2 : (N : Int) = last + 3 * e - f := by omega
  have hv' : v = if last + 3 * e < backR ⟨r, e, c⟩ f fs d last N then (0, 7) else (backR ⟨r, e, c⟩ f fs d last N, 0) := by
    rw [← hv]
    simp only [backVal]
    rw [if_neg (by rw [err_of_ok hl]; simp), if_neg (by simp [btw_iff.2 ⟨f0, f1⟩]), if_neg (by rw [faults_ok h5 h20]; simp), hlast, hd, back_eq h5, hN]
  have hbt := backR_btw (l := ⟨r, e, c⟩) (fs := fs) (d := d) hlb.1 N
  have hfs : ∀ x ∈ fs, x.1 ≤ f + e - 1 := fun x hx => (( chk_sorted h).2 x hx).2.1
  refine ⟨⟨by omega, by omega⟩, ?_, ?_, ?_⟩
  · by_cases q : last + 3 * e < backR ⟨r, e, c⟩ f fs d last N
    · rw [if_pos q] at hv'; subst hv'; exact .inr ⟨rfl, rfl⟩
    · rw [if_neg q] at hv'; subst hv'; exact .inl ⟨rfl, hbt.1, by dsimp only; omega⟩
  · intro hc
    have hrt := again_right hl hr f0 hf h h20 hc
    rw [hd] at hrt
    have hE : ((e.toNat : Nat) : Int) = e := by omega
    have hall : ∀ k : Nat, f + e ≤ f + k → (runN ⟨r, e, c⟩ f fs d k).s = (f + k) % 720 := fun k hk => by
      have := right_run (m := e.toNat) hl f0 (by rw [hE]; exact hrt) (fun x hx => by have := hfs x hx; omega) (k - e.toNat)
      rw [show e.toNat + (k - e.toNat) = k by omega] at this
      have h2 := this.1
      rw [h2]; congr 1; omega
    have := back_le (l := ⟨r, e, c⟩) (fs := fs) (d := d) (last := last) (B := f + e) (by omega) hall N
    rw [if_neg (by omega)] at hv'
    subst hv'
    exact ⟨rfl, by dsimp only; omega⟩
  · intro t ht1 ht2
    obtain ⟨k, hk⟩ : ∃ k : Nat, (t - f).toNat = k := ⟨_, rfl⟩
    have hk2 : t = f + k := by omega
    rw [hk]
    subst hk2
    refine ⟨fun g0 g1 => ?_, fun g0 g1 => ?_, fun g0 g1 => ?_⟩
    · by_cases q : last + 3 * e < backR ⟨r, e, c⟩ f fs d last N
      · rw [if_pos q] at hv'; subst hv'; simp at g0
      · rw [if_neg q] at hv'; subst hv'
        exact back_right hds N k (by omega) g1 ht1
    · by_cases q : last + 3 * e < backR ⟨r, e, c⟩ f fs d last N
      · rw [if_pos q] at hv'; subst hv'; simp at g0
      · rw [if_neg q] at hv'; subst hv'
        dsimp only at g1
        exact back_wrong hlb.1 N k (by omega) ht1
    · by_cases q : last + 3 * e < backR ⟨r, e, c⟩ f fs d last N
      · intro hrt
        have hw := back_wrong (l := ⟨r, e, c⟩) (fs := fs) (d := d) hlb.1 N N (by omega) (by omega)
        obtain ⟨m, rfl⟩ : ∃ m, k = m + 1 := ⟨k - 1, by omega⟩
        have hlg : (f + m + 1) % e = 0 := by
          rw [show f + (m : Int) + 1 = f + 3 * e by omega, Int.add_emod, hf, Int.mul_emod_left]; rfl
        have hL : isLong ⟨r, e, c⟩ (f + m + 1) = true := by simp [isLong, hlg]; exact hr
        have hk0 : (runN ⟨r, e, c⟩ f fs d (m + 1)).k = 0 := by
          rw [runN]; unfold imp; rw [if_pos hL]; exact cor_k _ _
        have hright : right ⟨r, e, c⟩ (f + (m + 1 : Nat)) (runN ⟨r, e, c⟩ f fs d (m + 1)) := ⟨hrt, fun _ => by
          rw [hk0]; show 0 = (f + ((m + 1 : Nat) : Int)) % e
          rw [show f + ((m + 1 : Nat) : Int) = f + m + 1 by omega, hlg]⟩
        have := right_run hl f0 hright (fun x hx => by have := hfs x hx; omega) (N - (m + 1))
        rw [show m + 1 + (N - (m + 1)) = N by omega] at this
        refine hw ?_
        rw [this.1]; congr 1; omega
      · rw [if_neg q] at hv'; subst hv'; simp at g0
end Pu
end Go.Proofs.Ytpjlihkpnhamlaa
end

/- The walk of the laws' small line. -/
section
set_option linter.unusedSimpArgs false
set_option linter.unusedVariables false
namespace Go.Proofs.Ytpjlihkpnhamlaa
open Go.RowKit Go.Shelf

namespace Pu
def wE (e : Int) : Int := if e % 8 = 0 then 5 else if e % 8 = 1 then 6 else if e % 8 = 2 then 10 else if e % 8 = 3 then 12 else if e % 8 = 4 then 30 else if e % 8 = 5 then 60 else if e % 8 = 6 then 120 else 2
def wL (r e c : Int) : Ln := ⟨1 + r % 3, wE e, c % ((wE e - 1) / 2 + 1)⟩
theorem wE_btw (e : Int) : 2 ≤ wE e ∧ wE e ≤ 120 ∧ 720 % wE e = 0 := by
  unfold wE
  repeat' split
  all_goals decide
theorem wL_ok {r e c : Int} (hc : 0 ≤ c) : (wL r e c).ok := by
  have := wE_btw e
  refine .inr ⟨?_, ?_, this.1, by simp only [wL]; omega, this.2.2, ?_, ?_⟩ <;> simp only [wL]
  · omega
  · omega
  · exact Int.emod_nonneg _ (by omega)
  · have := Int.emod_lt_of_pos c (show 0 < (wE e - 1) / 2 + 1 by omega); omega
end Pu

theorem pickE (W : World) (j x : Int) (h : (j = 0 ∧ x = 5) ∨ (j = 1 ∧ x = 6) ∨ (j = 2 ∧ x = 10) ∨ (j = 3 ∧ x = 12) ∨ (j = 4 ∧ x = 30) ∨ (j = 5 ∧ x = 60) ∨ (j = 6 ∧ x = 120) ∨ (j = 7 ∧ x = 2)) :
   (Instr.index 107 (.agg #[.int .i64 5, .int .i64 6, .int .i64 10, .int .i64 12, .int .i64 30, .int .i64 60, .int .i64 120, .int .i64 2]) (.int .u8 j)).run Try.prog W = .ok (.int .i64 x) W := by
  rcases h with ⟨rfl, rfl⟩ | ⟨rfl, rfl⟩ | ⟨rfl, rfl⟩ | ⟨rfl, rfl⟩ | ⟨rfl, rfl⟩ | ⟨rfl, rfl⟩ | ⟨rfl, rfl⟩ | ⟨rfl, rfl⟩ <;> kernel_rfl
theorem pickE' (W : World) (e : Int) (h0 : 0 ≤ e) : (Instr.index 107 (.agg #[.int .i64 5, .int .i64 6, .int .i64 10, .int .i64 12, .int .i64 30, .int .i64 60, .int .i64 120, .int .i64 2]) (.int .u8 (e % 8))).run Try.prog W = .ok (.int .i64 (Pu.wE e)) W := by
  refine pickE W _ _ ?_
  unfold Pu.wE
  have : 0 ≤ e % 8 ∧ e % 8 < 8 := by omega
  repeat' split
  all_goals omega

set_option maxHeartbeats 1000000 in
theorem wired_any (r e c : Int) (w : World) (h0 : 0 ≤ r) (h1 : r ≤ 255) (h2 : 0 ≤ e) (h3 : e ≤ 255) (h4 : 0 ≤ c) (h5 : c ≤ 255) :
    Calls Try.prog 29 #[.agg #[.int .u8 r, .int .u8 e, .int .u8 c]] w (Ret w (.agg #[.int .i64 (Pu.wL r e c).r, .int .i64 (Pu.wL r e c).e, .int .i64 (Pu.wL r e c).c])) := by
  have hp := fun W => pickE' W e h2
  have hb := Pu.wE_btw e
  have hb1 := hb.1; have hb2 := hb.2.1
  clear hb
  obtain ⟨v, hv⟩ : ∃ v, v = Pu.wL r e c := ⟨_, rfl⟩
  rw [← hv]
  have HV : Hid (v = ⟨1 + r % 3, Pu.wE e, c % ((Pu.wE e - 1) / 2 + 1)⟩) := Lib.hid hv
  clear hv
  go_enter Try.func29, Try.ntmps29
  go_wp2_with fail
  go_region
  go_wp2_with fail
  exact bodyPost_ret (v := .agg #[.int .i64 v.r, .int .i64 v.e, .int .i64 v.c]) (by simp [results, Try.results29, go_sem]; rw [HV.out]; exact ⟨rfl, rfl, rfl⟩) rfl (ret_any rfl (by repeat first | exact Below.refl _ _ | assumption | (refine Below.alloc ?_ (by first | omega | (simp; done) | (simp; omega)) _) | (refine Below.setCell ?_ (by first | omega | (simp; done) | (simp; omega)) _) | (refine Below.drew ?_) | (refine belowDrewN ?_) | (refine Below.trans ?_ (Below.mono (by assumption) (by first | omega | (simp; done) | (simp; omega))))))
end Go.Proofs.Ytpjlihkpnhamlaa
end

/- What the laws of pulse compute: their small functions. -/
section
set_option linter.unusedSimpArgs false
set_option linter.unusedVariables false
namespace Go.Proofs.Ytpjlihkpnhamlaa.Sy
open Go.RowKit

theorem ev_wired {n : Nat} {a b c : Int} (ha : 0 ≤ a ∧ a ≤ 255) (hb : 0 ≤ b ∧ b ≤ 255) (hc : 0 ≤ c ∧ c ≤ 255) : ev_law09_Wired_line n a b c = some ((Pu.wL a b c).r, (Pu.wL a b c).e, (Pu.wL a b c).c) := by
  have hE := Pu.wE_btw b
  have hidx : ∀ k : Int → Option (Int × Int × Int), idx ([5, 6, 10, 12, 30, 60, 120, 2] : List Int) (b % 8) k = k (Pu.wE b) := by
    intro k
    have h8 : b % 8 = 0 ∨ b % 8 = 1 ∨ b % 8 = 2 ∨ b % 8 = 3 ∨ b % 8 = 4 ∨ b % 8 = 5 ∨ b % 8 = 6 ∨ b % 8 = 7 := by omega
    unfold Pu.wE
    rcases h8 with h | h | h | h | h | h | h | h <;> rw [h] <;> exact idx_of (by omega) rfl
  simp only [ev_law09_Wired_line, Int.tmod_eq_emod_of_nonneg ha.1, Int.tmod_eq_emod_of_nonneg hb.1, Int.tmod_eq_emod_of_nonneg hc.1]
  rw [chk_of (inK8_iff.2 (by omega)), chk_of (in64_of (by omega)), chk_of (by simp; omega), hidx, chk_of (in64_of (by omega)), chk_of (in64_of (by omega)), Int.tdiv_eq_ediv_of_nonneg (by omega), chk_of (in64_of (by omega)), chk_of (in64_of (by omega)), chk_of (by simp; omega)]
  rfl
theorem ev_faults {n : Nat} {fs : List (Int × Int)} (h : fs.length ≤ 1000) : ev_law09_faults n fs = some fs := by
  simp only [ev_law09_faults, List.nil_append, List.length_nil, Nat.zero_add]
  rw [chk_of (room_iff.2 (by omega))]
theorem ev_seen {n : Nat} {fs : List (Int × Int)} (h : fs.length ≤ 1000) : ev_law09_seen n fs = some fs := by
  simp only [ev_law09_seen, List.nil_append, List.length_nil, Nat.zero_add]
  rw [chk_of (room_iff.2 (by omega))]
theorem ev_counts {n : Nat} {fs : List (Int × Int)} (h : fs.length ≤ 1000) (hn : fs.length < n) : ev_law09_counts n fs = some (Pu.cntA fs, Pu.cntB fs) := by
  have key : ∀ (m k : Nat), k ≤ fs.length → fs.length < m + k → ev_law09_counts_l0 n fs m (Pu.cntA (fs.take k)) (Pu.cntB (fs.take k)) k = some (Pu.cntA fs, Pu.cntB fs) := by
    intro m
    induction m with
    | zero => intro k h1 h2; omega
    | succ m ih =>
      intro k h1 h2
      have hA := Pu.cntA_le fs k
      have hB := Pu.cntB_le fs k
      rw [ev_law09_counts_l0, cond_if]
      rcases Nat.lt_or_ge k fs.length with hk | hk
      · have hih := ih (k + 1) (by omega) (by omega)
        rw [Pu.cntA_take hk, Pu.cntB_take hk] at hih
        rw [if_pos (by simp; omega), idx_nat (List.getElem?_eq_getElem hk), cond_if]
        by_cases h3 : fs[k].2 = 1
        · rw [if_pos (by simpa using h3), chk_of (in64_of (by omega)), chk_of (in64_of (by omega))]
          simpa [h3] using hih
        · rw [if_neg (by simpa using h3), chk_of (in64_of (by omega)), chk_of (in64_of (by omega))]
          simpa [h3] using hih
      · rw [if_neg (by simp; omega), List.take_of_length_le hk]
  have := key n 0 (by omega) (by omega)
  simpa [Pu.cntA, Pu.cntB, ev_law09_counts] using this
theorem ev_list {n : Nat} {r e c f U : Int} {zs : List Int} (hl : (Pu.Ln.mk r e c).ok) (f0 : 0 ≤ f) (hU : U ≤ 1000000) (fU : f ≤ U) (hz : ∀ z ∈ zs, 0 ≤ z ∧ z ≤ 255) (hn : zs.length < n) (hm : zs.length ≤ 9223372036854775807) :
    ev_law09_list n r e c f U zs = some (Pu.lst ⟨r, e, c⟩ U zs 0 f) := by
  have hl' := hl
  unfold Pu.Ln.ok at hl'
  dsimp only at hl'
  have key : ∀ (m k : Nat) (t : Int) (acc : List (Int × Int)), k ≤ zs.length → zs.length < m + k → 0 ≤ t → t ≤ U → acc.length ≤ 20 → ev_law09_list_l0 n U m t k zs r e c acc = some (acc ++ Pu.lst ⟨r, e, c⟩ U (zs.drop k) acc.length t) := by
    intro m
    induction m with
    | zero => intro k t acc h1 h2; omega
    | succ m ih =>
      intro k t acc h1 h2 h3 h4 h5
      rw [ev_law09_list_l0, cond_if, cond_if]
      rcases Nat.lt_or_ge k zs.length with hk | hk
      · rw [if_pos (by simp; omega)]
        rw [List.drop_eq_getElem_cons hk, Pu.lst]
        have hz' := hz zs[k] (List.getElem_mem hk)
        by_cases h6 : acc.length < 20
        · rw [if_pos (by simp; omega), if_pos h6, ev_law09_list_j1, idx_nat (List.getElem?_eq_getElem hk)]
          rw [Int.tdiv_eq_ediv_of_nonneg hz'.1, Int.tmod_eq_emod_of_nonneg (by omega : 0 ≤ zs[k] / 4), Int.tmod_eq_emod_of_nonneg hz'.1]
          rw [chk_of (in64_of (by omega)), chk_of (in64_of (by omega)), chk_of (in64_of (by omega)), chk_of (in64_of (by omega)), cond_if]
          by_cases h7 : t + (1 + zs[k] / 4 % 8) ≤ U
          · rw [if_neg (by simp; omega), if_pos h7, cond_if]
            have hs : (1 : Int) + zs[k] % 2 = 1 + zs[k] % 2 := rfl
            have hadd : chk (inK .u8 ((1 : Int) + zs[k] % 2)) (chk (in64 ((1 : Int) + zs[k] % 2)) (chk (room 16 (acc.length + ([(t + (1 + zs[k] / 4 % 8), 1 + zs[k] % 2)] : List (Int × Int)).length)) (chk (in64 ((k : Int) + 1)) (ev_law09_list_l0 n U m (t + (1 + zs[k] / 4 % 8)) (k + 1) zs r e c (acc ++ [(t + (1 + zs[k] / 4 % 8), 1 + zs[k] % 2)]))))) =
                some (acc ++ (t + (1 + zs[k] / 4 % 8), 1 + zs[k] % 2) :: Pu.lst ⟨r, e, c⟩ U (zs.drop (k + 1)) (acc.length + 1) (t + (1 + zs[k] / 4 % 8))) := by
              rw [chk_of (inK8_iff.2 (by omega)), chk_of (in64_of (by omega)), chk_of (room_iff.2 (by simp; omega)), chk_of (in64_of (by omega))]
              have := ih (k + 1) (t + (1 + zs[k] / 4 % 8)) (acc ++ [(t + (1 + zs[k] / 4 % 8), 1 + zs[k] % 2)]) (by omega) (by omega) (by omega) h7 (by simp; omega)
              rw [show ((k + 1 : Nat) : Int) = (k : Int) + 1 by omega] at this
              rw [this]; simp
            by_cases h8 : r = 0
            · rw [if_neg (by simp [h8]), if_neg (by simp [h8])]
              exact hadd
            · rw [if_pos (by simp [h8]), chk_of (by simp; omega), cond_if, Int.tmod_eq_emod_of_nonneg (by omega)]
              by_cases h9 : (t + (1 + zs[k] / 4 % 8)) % e = 0
              · rw [if_pos (by simp [h9]), if_pos ⟨h8, h9⟩, chk_of (in64_of (by omega))]
                have := ih (k + 1) (t + (1 + zs[k] / 4 % 8)) acc (by omega) (by omega) (by omega) h7 h5
                rw [show ((k + 1 : Nat) : Int) = (k : Int) + 1 by omega] at this
                exact this
              · rw [if_neg (by simp [h9]), if_neg (by simp [h9])]
                exact hadd
          · rw [if_pos (by simp; omega), if_neg h7]; simp
        · rw [if_neg (by simp; omega), if_neg h6]; simp
      · rw [if_neg (by simp; omega), List.drop_eq_nil_of_le hk]; simp [Pu.lst]
  have := key n 0 f [] (by omega) (by omega) f0 fU (by simp)
  simpa [ev_law09_list] using this
end Go.Proofs.Ytpjlihkpnhamlaa.Sy
end

/- AGAIN: what the law computes is true. -/
section
set_option linter.unusedSimpArgs false
set_option linter.unusedVariables false
namespace Go.Proofs.Ytpjlihkpnhamlaa.Sy
open Go.RowKit

theorem again_corr {l : Pu.Ln} {a b : Int} (hl : l.ok) (ha : 0 ≤ a ∧ a ≤ 20) (hb : 0 ≤ b ∧ b ≤ 20) : (Pu.corrVal l a b).2 = 0 := by
  unfold Pu.corrVal
  rw [if_neg (by rw [Pu.err_of_ok hl]; simp), if_neg (by simp [btw_iff.2 ha, btw_iff.2 hb])]
  split
  · rfl
  · split <;> rfl
theorem ev_run {n : Nat} {r e c sh f U : Int} {fs : List (Int × Int)} (h : fs.length ≤ 1000) (hr : -1000 ≤ r ∧ r ≤ 1000) (he : -1000 ≤ e ∧ e ≤ 1000) (hc : -1000 ≤ c ∧ c ≤ 1000) : ev_pulse_Run n r e c sh f fs U = some (Pu.runVal ⟨r, e, c⟩ sh f fs U) := by
  unfold ev_pulse_Run wf64
  rw [chk_of (by simp; omega), chk_of (wf64_iff.2 (by omega)), chk_of (wf64_iff.2 (by omega)), chk_of (wf64_iff.2 (by omega))]
theorem ev_back {n : Nat} {r e c f : Int} {fs : List (Int × Int)} (h : fs.length ≤ 1000) (hr : -1000 ≤ r ∧ r ≤ 1000) (he : -1000 ≤ e ∧ e ≤ 1000) (hc : -1000 ≤ c ∧ c ≤ 1000) : ev_pulse_Back n r e c f fs = some (Pu.backVal ⟨r, e, c⟩ f fs) := by
  unfold ev_pulse_Back wf64
  rw [chk_of (by simp; omega), chk_of (wf64_iff.2 (by omega)), chk_of (wf64_iff.2 (by omega)), chk_of (wf64_iff.2 (by omega))]
theorem ev_corr {n : Nat} {r e c a b : Int} (hr : -1000 ≤ r ∧ r ≤ 1000) (he : -1000 ≤ e ∧ e ≤ 1000) (hc : -1000 ≤ c ∧ c ≤ 1000) : ev_pulse_Corrects n r e c a b = some (Pu.corrVal ⟨r, e, c⟩ a b) := by
  unfold ev_pulse_Corrects wf64
  rw [chk_of (wf64_iff.2 (by omega)), chk_of (wf64_iff.2 (by omega)), chk_of (wf64_iff.2 (by omega))]

theorem ag_j5 {n : Nat} {v : Int × Int} {r e k turn t last s f : Int} {K : Int → Option Bool} (ht : 0 ≤ turn) (hf : f = e * (turn % 40)) (hK : K (t + 1) = some true) (h0 : 0 ≤ t ∧ t ≤ 100000) (he : 0 ≤ e ∧ e ≤ 120) (hf0 : 0 ≤ f ∧ f ≤ 4680) (hl : 0 ≤ last ∧ last ≤ 10000)
    (q : v.2 = 7 → t = f + 3 * e → s ≠ t % 720) : ev_law09_PulseAgain_j5 n v (r, e, k) turn t last (s, 0) K = some true := by
  have hn : chk (in64 (t + 1)) (K (t + 1)) = some true := by rw [chk_of (in64_of (by omega))]; exact hK
  rw [ev_law09_PulseAgain_j5]
  simp only [Int.tmod_eq_emod_of_nonneg ht, Int.tmod_eq_emod_of_nonneg h0.1, ← hf, hn]
  rw [chk_of (in64_of (by omega)), chk_of (in64_of (by omega)), chk_of (in64_of (by omega)), chk_of (in64_of (by omega))]
  cases h1 : v.2 == 7 with
  | false => rfl
  | true =>
    cases h2 : t == f + 3 * e with
    | false => rfl
    | true =>
      have := q (by simpa using h1) (by simpa using h2)
      have h3 : (s == t % 720) = false := by simpa using this
      rw [h3]
      cases decide (e ≤ 120) <;> cases decide (last + 2 * e ≤ t) <;> rfl
theorem ag_j4 {n : Nat} {v : Int × Int} {r e k turn t last s f : Int} {K : Int → Option Bool} (ht : 0 ≤ turn) (hf : f = e * (turn % 40)) (hK : K (t + 1) = some true) (h0 : 0 ≤ t ∧ t ≤ 100000) (he : 0 ≤ e ∧ e ≤ 120) (hf0 : 0 ≤ f ∧ f ≤ 4680) (hl : 0 ≤ last ∧ last ≤ 10000)
    (hv : 0 ≤ v.1 ∧ v.1 ≤ 100000) (q : v.2 = 7 → t = f + 3 * e → s ≠ t % 720) (q1 : v.2 = 0 → v.1 ≤ t → s = t % 720) (q2 : v.2 = 0 → t = v.1 - 1 → s ≠ t % 720) : ev_law09_PulseAgain_j4 n v t (s, 0) last (r, e, k) turn K = some true := by
  have hj := ag_j5 (n := n) (r := r) (k := k) ht hf hK h0 he hf0 hl q
  rw [ev_law09_PulseAgain_j4]
  simp only [Int.tmod_eq_emod_of_nonneg h0.1, hj]
  rw [chk_of (in64_of (by omega))]
  cases h1 : v.2 == 0 with
  | false => rfl
  | true =>
    have h1' : v.2 = 0 := by simpa using h1
    have hi : cond (t == v.1 - 1) (cond (decide (last ≤ t)) (cond (s == t % 720) (some false) (some true)) (some true)) (some true) = some true := by
      cases h2 : t == v.1 - 1 with
      | false => rfl
      | true =>
        have := q2 h1' (by simpa using h2)
        have h3 : (s == t % 720) = false := by simpa using this
        rw [h3]
        cases decide (last ≤ t) <;> rfl
    rw [hi]
    cases h2 : decide (v.1 ≤ t) with
    | false => rfl
    | true =>
      have := q1 h1' (of_decide_eq_true h2)
      have h3 : (s == t % 720) = true := by simpa using this
      rw [h3]; rfl
theorem ev_again {a b c turn : Int} {zs : List Int} (ha : 0 ≤ a ∧ a ≤ 255) (hb : 0 ≤ b ∧ b ≤ 255) (hc : 0 ≤ c ∧ c ≤ 255) (ht : 0 ≤ turn ∧ turn ≤ 255) (hz : ∀ z ∈ zs, 0 ≤ z ∧ z ≤ 255) (hm : zs.length ≤ 9223372036854775807) :
    ev_law09_PulseAgain (zs.length + 10000) a b c turn zs = some true := by
  obtain ⟨n, hn⟩ : ∃ n, n = zs.length + 10000 := ⟨_, rfl⟩
  rw [← hn]
  have hl := Pu.wL_ok (r := a) (e := b) (c := c) hc.1
  have hE := Pu.wE_btw b
  have hr1 : (Pu.wL a b c).r = 1 + a % 3 := rfl
  have he1 : (Pu.wL a b c).e = Pu.wE b := rfl
  unfold ev_law09_PulseAgain
  rw [bind_of (ev_wired ha hb hc)]
  obtain ⟨r, hr⟩ : ∃ r, r = (Pu.wL a b c).r := ⟨_, rfl⟩
  obtain ⟨e, he⟩ : ∃ e, e = (Pu.wL a b c).e := ⟨_, rfl⟩
  obtain ⟨k, hk⟩ : ∃ k, k = (Pu.wL a b c).c := ⟨_, rfl⟩
  have hl' : (Pu.Ln.mk r e k).ok := by rw [hr, he, hk]; exact hl
  simp only [← hr, ← he, ← hk]
  rw [hr1] at hr; rw [he1] at he
  clear hl hr1 he1 hk
  rw [← he] at hE
  have hrn : r ≠ 0 := by omega
  have hb3 : -1000 ≤ k ∧ k ≤ 1000 := by unfold Pu.Ln.ok at hl'; dsimp only at hl'; omega
  have hb1 : -1000 ≤ r ∧ r ≤ 1000 := by omega
  have hb2 : -1000 ≤ e ∧ e ≤ 1000 := by omega
  clear hr he
  rw [Int.tmod_eq_emod_of_nonneg ht.1]
  have hmul : 0 ≤ e * (turn % 40) ∧ e * (turn % 40) ≤ 120 * 39 := ⟨Int.mul_nonneg (by omega) (by omega), Int.mul_le_mul (by omega) (by omega) (by omega) (by omega)⟩
  have hfe : e * (turn % 40) % e = 0 := Int.mul_emod_right e _
  obtain ⟨f, hf⟩ : ∃ f, f = e * (turn % 40) := ⟨_, rfl⟩
  rw [← hf] at hmul hfe
  simp only [← hf]
  rw [chk_of (in64_of (by omega)), chk_of (in64_of (by omega)), chk_of (in64_of (by omega)), chk_of (in64_of (by omega))]
  rw [bind_of (ev_list hl' hmul.1 (by omega) (by omega) hz (by omega) hm)]
  have hchk : Pu.chkFs ⟨r, e, k⟩ (f + e - 1) f (Pu.lst ⟨r, e, k⟩ (f + e - 1) zs 0 f) = true := Pu.lst_chk (Int.le_refl _)
  have h20 : (Pu.lst ⟨r, e, k⟩ (f + e - 1) zs 0 f).length ≤ 20 := Pu.lst_len (n := 0) (by omega)
  obtain ⟨fs, hfs⟩ : ∃ fs, fs = Pu.lst ⟨r, e, k⟩ (f + e - 1) zs 0 f := ⟨_, rfl⟩
  rw [← hfs] at hchk h20
  simp only [← hfs]
  clear hfs
  rw [bind_of (ev_counts (by omega) (by omega)), bind_of (ev_corr hb1 hb2 hb3), bind_of (ev_faults (by omega)), bind_of (ev_back (by omega) hb1 hb2 hb3)]
  have hcA := Pu.cnt_nonneg fs
  have hcl := Pu.cnt_len fs
  have hc0 := again_corr (a := Pu.cntA fs) (b := Pu.cntB fs) hl' (by omega) (by omega)
  obtain ⟨⟨hl1, hl2⟩, hv, hcor, hat⟩ := Pu.again_facts hl' hrn hmul.1 (by omega) hfe hchk h20 rfl rfl rfl
  generalize hv0 : Pu.backVal ⟨r, e, k⟩ f fs = v at *
  generalize hcv : Pu.corrVal ⟨r, e, k⟩ (Pu.cntA fs) (Pu.cntB fs) = cv at *
  generalize hla : Pu.lastF f fs = last at *
  -- the loop
  have loop : ∀ (m : Nat) (t : Int), last ≤ t → t ≤ f + 3 * e + 1 → f + 3 * e + 1 - t < m → ev_law09_PulseAgain_l2 n (r, e, k) turn last fs v m t = some true := by
    intro m
    induction m with
    | zero => intro t h1 h2 h3; omega
    | succ m ih =>
      intro t h1 h2 h3
      rw [ev_law09_PulseAgain_l2]
      simp only [Int.tmod_eq_emod_of_nonneg ht.1, ← hf]
      rw [chk_of (in64_of (by omega)), chk_of (in64_of (by omega)), cond_if]
      have hend : cond (v.2 == 7) ((ev_law09_known n).bind fun r17 => some r17) (cond (decide (last ≤ v.1)) ((ev_law09_known n).bind fun r18 => some r18) (some false)) = some true := by
        rcases hv with ⟨h4, h5, _⟩ | ⟨h4, _⟩
        · rw [h4, cond_if, if_neg (by decide), cond_if, if_pos (by simpa using h5)]; rfl
        · rw [h4]; rfl
      by_cases h4 : t ≤ f + 3 * e
      · rw [if_pos (by simpa using h4), chk_of (in64_of (by omega)), cond_if, if_pos (by simp; omega), ev_law09_PulseAgain_j3]
        simp only [Int.tmod_eq_emod_of_nonneg ht.1, ← hf]
        rw [bind_of (ev_faults (by omega)), bind_of (ev_run (by omega) hb1 hb2 hb3)]
        rw [Int.tmod_eq_emod_of_nonneg hmul.1, Pu.run_val hl' (by omega) (by omega) (by omega) (Pu.chk_upto hchk (by rw [hla]; exact h1)) h20]
        obtain ⟨q1, q2, q3⟩ := hat t h1 h4
        have hs := (Pu.runN_ok (l := ⟨r, e, k⟩) (f := f) (fs := fs) (Pu.start_ok (l := ⟨r, e, k⟩) (s := f % 720) (t := f) hl' (by omega) (by omega) hmul.1) (by omega) (t - f).toNat)
        unfold Pu.Dl.ok at hs
        generalize (Pu.runN ⟨r, e, k⟩ f fs (Pu.start ⟨r, e, k⟩ (f % 720) f) (t - f).toNat).s = s at *
        rw [cond_if, if_neg (by simp), cond_if, if_neg (by simp; omega), cond_if, if_neg (by simp; omega)]
        exact ag_j4 ht.1 hf (ih (t + 1) (by omega) (by omega) (by omega)) (by omega) (by omega) (by omega) (by omega) (by rcases hv with h | h <;> omega) q3 q1 q2
      · rw [if_neg (by simpa using h4)]
        exact hend
  have hj0 : ev_law09_PulseAgain_j0 n fs (r, e, k) turn v = some true := by
    have hj1 : ev_law09_PulseAgain_j1 n (r, e, k) turn fs v last = some true := loop n last (Int.le_refl _) (by omega) (by omega)
    rw [ev_law09_PulseAgain_j0, cond_if]
    by_cases h : 0 < fs.length
    · rw [if_pos (by simpa using h), chk_of (in64_of (by omega)), idx_of (x := fs[fs.length - 1]) (by omega) (by rw [show ((fs.length : Int) - 1).toNat = fs.length - 1 by omega]; simp)]
      rw [← Pu.lastF_get (f := f) h, hla]; exact hj1
    · have : fs = [] := List.length_eq_zero_iff.1 (by omega)
      rw [if_neg (by simpa using h), Int.tmod_eq_emod_of_nonneg ht.1, ← hf]
      rw [this] at hla
      rw [show f = last from hla]; exact hj1
  rw [cond_if, if_neg (by simp [hc0])]
  rw [hj0]
  rw [chk_of (in64_of (by omega)), chk_of (in64_of (by omega))]
  have hin : cond cv.1 (cond (v.2 != 0) (some false) (cond (decide (f + 2 * e < v.1)) (some false) (some true))) (some true) = some true := by
    cases h1 : cv.1 with
    | false => rfl
    | true =>
      obtain ⟨g1, g2⟩ := hcor h1
      rw [g1, show decide (f + 2 * e < v.1) = false by simpa using g2]; rfl
  rw [hin]
  rcases hv with ⟨g, _⟩ | ⟨g, _⟩ <;> rw [g] <;> rfl
theorem again_ev {w1 : Int} {w2 : Int} {w3 : Int} {turn4 : Int} {by_5 : List Int} (h0 : (Lit.int .u8 w1).wf = true ∧ (Lit.int .u8 w2).wf = true ∧ (Lit.int .u8 w3).wf = true) (h1 : (Lit.int .u8 turn4).wf = true) (h2 : (by_5.length ≤ maxLen ∧ ∀ y5 ∈ by_5, (Lit.int .u8 y5).wf = true)) :
    ∃ n, ev_law09_PulseAgain n w1 w2 w3 turn4 by_5 = some true :=
  ⟨_, ev_again (wf8.1 h0.1) (wf8.1 h0.2.1) (wf8.1 h0.2.2) (wf8.1 h1) (fun z hz => wf8.1 (h2.2 z hz)) h2.1⟩
end Go.Proofs.Ytpjlihkpnhamlaa.Sy
end
