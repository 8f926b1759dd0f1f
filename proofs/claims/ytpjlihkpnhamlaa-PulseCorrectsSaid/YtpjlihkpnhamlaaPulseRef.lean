/- The walks of the reference's small functions on dials. -/
import Derived.Test.YtpjlihkpnhamlaaPulsePlain
import Derived.Test.YtpjlihkpnhamlaaBase
set_option linter.unusedSimpArgs false
set_option linter.unusedVariables false
namespace Go.Proofs.Ytpjlihkpnhamlaa
open Go.RowKit Go.Shelf

namespace Pu
def rcor (l : Ln) (d : Dl) : Dl :=
  if l.r = 1 then (if d.s % l.e ≤ l.c then ⟨d.s - d.s % l.e, 0⟩ else if l.e - d.s % l.e ≤ l.c then ⟨(d.s + l.e - d.s % l.e) % 720, 0⟩ else ⟨d.s, 0⟩)
  else if l.r = 2 then (if 0 < d.s % l.e ∧ l.e - d.s % l.e ≤ l.c then ⟨(d.s + l.e - d.s % l.e) % 720, 0⟩ else ⟨d.s, 0⟩)
  else (if -l.c ≤ l.e - d.k ∧ l.e - d.k ≤ l.c then ⟨(d.s + (l.e - d.k) + 720) % 720, 0⟩ else ⟨d.s, 0⟩)
theorem rcor_cor {l : Ln} {d : Dl} (h1 : 1 ≤ l.r) (h2 : 2 ≤ l.e) (h3 : 0 ≤ l.c) (h4 : l.c ≤ (l.e - 1) / 2) (h5 : 0 ≤ d.s) (h6 : d.s < 720) : rcor l d = cor l d := by
  obtain ⟨r, e, c⟩ := l
  obtain ⟨s, k⟩ := d
  dsimp only at *
  have m0 : 0 ≤ s % e := Int.emod_nonneg _ (by omega)
  have m1 : s % e < e := Int.emod_lt_of_pos _ (by omega)
  have m2 : s % e ≤ s := by
    rcases Int.lt_or_le s e with h | h
    · rw [Int.emod_eq_of_lt h5 h]; exact Int.le_refl _
    · omega
  have m3 : (e - s % e) % e = if s % e = 0 then 0 else e - s % e := by
    split
    · rename_i h; rw [h]; simp
    · rw [Int.emod_eq_of_lt (by omega) (by omega)]
  unfold rcor cor cby
  dsimp only
  rw [m3]
  generalize s % e = m at *
  by_cases r1 : r = 1
  · simp only [if_pos r1]
    by_cases q : m ≤ c
    · simp only [if_pos q]; rw [if_pos (by omega)]; congr 1; omega
    · simp only [if_neg q]
      by_cases q2 : e - m ≤ c
      · rw [if_pos q2, if_pos (by omega)]; congr 1; omega
      · rw [if_neg q2, if_neg (by omega)]
  · simp only [if_neg r1]
    by_cases r2 : r = 2
    · simp only [if_pos r2]
      by_cases q : m = 0
      · rw [if_neg (by omega)]; simp only [if_pos q]; rw [if_pos (by omega)]; congr 1; omega
      · simp only [if_neg q]
        by_cases q2 : e - m ≤ c
        · rw [if_pos (by omega), if_pos (by omega)]; congr 1; omega
        · rw [if_neg (by omega), if_neg (by omega)]
    · simp only [if_neg r2]
def rimp (l : Ln) (t : Int) (m : Nat) (d : Dl) : Dl := if isLong l t = true then rcor l (mvs l true m d) else mvs l false m d
theorem rimp_imp {l : Ln} (hl : l.ok) {t : Int} {m : Nat} {d : Dl} {B : Int} (h : d.ok B) : rimp l t m d = imp l t m d := by
  unfold rimp imp
  split
  · rename_i hL
    rcases hl with ⟨h1, _⟩ | ⟨h1, h2, h3, h4, h5, h6, h7⟩
    · simp [isLong, h1] at hL
    · have := mvs_ok (l := l) (long := true) h m
      exact rcor_cor h1 h3 h6 h7 this.1 this.2.1
  · rfl
/-- how often the impulse of a minute moves a dial -/
def movesAt (fs : List (Int × Int)) (t : Int) : Nat := match fs.find? (fun f => f.1 == t) with | some f => if f.2 = 1 then 0 else 2 | none => 1
end Pu

/-- a slice value that reads as a list of pairs of integers -/
def IsPairs (w : World) (a : Option Addr) (fs : List (Int × Int)) : Prop :=
  fs.length ≤ 140737488355327 ∧ (∀ i (_ : i < fs.length), ∃ b o, a = some ⟨b, o, none⟩ ∧ b < w.heap.size ∧ w.cell? ⟨b, o + i * 2, none⟩ = some (.int .i64 fs[i].1) ∧ w.cell? ⟨b, o + i * 2 + 1, none⟩ = some (.int .i64 fs[i].2))
theorem IsPairs.below {w w' : World} {a : Option Addr} {zs : List (Int × Int)} (h : IsPairs w a zs) (hb : Below w.heap.size w w') : IsPairs w' a zs :=
  ⟨h.1, fun i hi => by
    obtain ⟨b, o, e, hlt, hc, hd⟩ := h.2 i hi
    exact ⟨b, o, e, Nat.lt_of_lt_of_le hlt hb.size, by rw [hb.cell (p := ⟨b, o + i * 2, none⟩) hlt]; exact hc, by rw [hb.cell (p := ⟨b, o + i * 2 + 1, none⟩) hlt]; exact hd⟩⟩

set_option maxHeartbeats 400000 in
theorem refLong_any (r e c t : Int) (w : World) (h : (Pu.Ln.mk r e c).ok) (ht : 0 ≤ t) :
    Calls Try.prog 42 #[.agg #[.int .i64 r, .int .i64 e, .int .i64 c], .int .i64 t] w (Ret w (.bool (Pu.isLong ⟨r, e, c⟩ t))) := by
  rcases h with ⟨rfl, rfl, rfl⟩ | ⟨h1, h2, h3, h4, h5, h6, h7⟩
  · go_enter Try.func42, Try.ntmps42
    go_wp2
    go_ret
    exact ret_bool (by simp [Pu.isLong]) (by repeat first | exact Below.refl _ _ | assumption | (refine Below.alloc ?_ (by first | omega | (simp; done) | (simp; omega)) _) | (refine Below.setCell ?_ (by first | omega | (simp; done) | (simp; omega)) _) | (refine Below.drew ?_) | (refine belowDrewN ?_) | (refine Below.trans ?_ (Below.mono (by assumption) (by first | omega | (simp; done) | (simp; omega)))))
  · simp only at h1 h2 h3 h4
    have hne : (r != 0) = true := by simp; omega
    clear h5 h6 h7
    go_enter Try.func42, Try.ntmps42
    go_wp2
    go_ret
    refine ret_bool ?_ (by repeat first | exact Below.refl _ _ | assumption | (refine Below.alloc ?_ (by first | omega | (simp; done) | (simp; omega)) _) | (refine Below.setCell ?_ (by first | omega | (simp; done) | (simp; omega)) _) | (refine Below.drew ?_) | (refine belowDrewN ?_) | (refine Below.trans ?_ (Below.mono (by assumption) (by first | omega | (simp; done) | (simp; omega)))))
    have : (r == 0) = false := by simp; omega
    simp [Pu.isLong, this]

set_option maxHeartbeats 400000 in
theorem refMinute_any (t : Int) (w : World) : Calls Try.prog 17 #[.int .i64 t] w (Ret w (.bool (btw 0 100000 t))) := by
  go_enter Try.func17, Try.ntmps17
  go_wp2
  all_goals (go_ret; refine ret_bool ?_ (by repeat first | exact Below.refl _ _ | assumption | (refine Below.alloc ?_ (by first | omega | (simp; done) | (simp; omega)) _) | (refine Below.setCell ?_ (by first | omega | (simp; done) | (simp; omega)) _) | (refine Below.drew ?_) | (refine belowDrewN ?_) | (refine Below.trans ?_ (Below.mono (by assumption) (by first | omega | (simp; done) | (simp; omega))))); unfold btw; (first | (simp [*]; done) | (simp [*]; omega) | (simp_all; done) | (simp_all; omega)))

set_option maxHeartbeats 1000000 in
theorem refCheck_any (r e c : Int) (w : World) (hr : (Lit.int .i64 r).wf = true) (he : (Lit.int .i64 e).wf = true) (hc : (Lit.int .i64 c).wf = true) :
    Calls Try.prog 14 #[.agg #[.int .i64 r, .int .i64 e, .int .i64 c]] w (Ret w (.int .i64 (Pu.lineErr r e c))) := by
  go_enter Try.func14, Try.ntmps14
  go_wp2
  all_goals (go_ret; refine ret_int ?_ (by repeat first | exact Below.refl _ _ | assumption | (refine Below.alloc ?_ (by first | omega | (simp; done) | (simp; omega)) _) | (refine Below.setCell ?_ (by first | omega | (simp; done) | (simp; omega)) _) | (refine Below.drew ?_) | (refine belowDrewN ?_) | (refine Below.trans ?_ (Below.mono (by assumption) (by first | omega | (simp; done) | (simp; omega))))); (try simp only [Bool.not_eq_true', Bool.not_eq_false', btw_iff, btw_not', beq_iff_eq, beq_eq_false_iff_ne, bne_iff_ne, bne_eq_false_iff_eq, ne_eq, Bool.not_eq_true, decide_eq_true_eq, decide_eq_false_iff_not, Int.not_lt, Int.not_le] at *); unfold Pu.lineErr; (repeat' split) <;> (first | rfl | (exfalso; omega) | (simp_all; done) | (simp_all; omega)))

set_option maxHeartbeats 400000 in
theorem refNew_any (r e c s t : Int) (w : World) (h : (Pu.Ln.mk r e c).ok) (ht : 0 ≤ t) :
    Calls Try.prog 19 #[.agg #[.int .i64 r, .int .i64 e, .int .i64 c], .int .i64 s, .int .i64 t] w (Ret w (.agg #[.int .i64 (Pu.start ⟨r, e, c⟩ s t).s, .int .i64 (Pu.start ⟨r, e, c⟩ s t).k])) := by
  rcases h with ⟨h4, h5, h6⟩ | ⟨h4, h5, h6, h7, h8, h9, h10⟩
  · dsimp only at h4 h5 h6
    subst h4 h5 h6
    go_enter Try.func19, Try.ntmps19
    go_wp2
    (refine bodyPost_ret (v := .agg #[.int .i64 (Pu.start ⟨0, 0, 0⟩ s t).s, .int .i64 (Pu.start ⟨0, 0, 0⟩ s t).k]) ?_ rfl (ret_any rfl (by repeat first | exact Below.refl _ _ | assumption | (refine Below.alloc ?_ (by first | omega | (simp; done) | (simp; omega)) _) | (refine Below.setCell ?_ (by first | omega | (simp; done) | (simp; omega)) _) | (refine Below.drew ?_) | (refine belowDrewN ?_) | (refine Below.trans ?_ (Below.mono (by assumption) (by first | omega | (simp; done) | (simp; omega)))))); (simp (maxDischargeDepth := 9) [results, Try.results19, go_sem, *]); (try simp only [beq_iff_eq, beq_eq_false_iff_ne, bne_iff_ne, bne_eq_false_iff_eq, ne_eq, Bool.not_eq_true, Bool.not_eq_true', Bool.not_eq_false', btw_iff, btw_not', Int.not_lt, Int.not_le] at *); (all_goals (try simp [Pu.start, *]); all_goals (try (repeat' split)); all_goals (try first | rfl | omega | (exfalso; omega) | (simp_all; done) | (simp_all; omega) | (constructor <;> omega))))
  · dsimp only at h4 h5 h6 h7
    have hne : (e == 0) = false := by simp; omega
    clear h8 h9 h10
    go_enter Try.func19, Try.ntmps19
    go_wp2
    (refine bodyPost_ret (v := .agg #[.int .i64 (Pu.start ⟨r, e, c⟩ s t).s, .int .i64 (Pu.start ⟨r, e, c⟩ s t).k]) ?_ rfl (ret_any rfl (by repeat first | exact Below.refl _ _ | assumption | (refine Below.alloc ?_ (by first | omega | (simp; done) | (simp; omega)) _) | (refine Below.setCell ?_ (by first | omega | (simp; done) | (simp; omega)) _) | (refine Below.drew ?_) | (refine belowDrewN ?_) | (refine Below.trans ?_ (Below.mono (by assumption) (by first | omega | (simp; done) | (simp; omega)))))); (simp (maxDischargeDepth := 9) [results, Try.results19, go_sem, *]); (try simp only [beq_iff_eq, beq_eq_false_iff_ne, bne_iff_ne, bne_eq_false_iff_eq, ne_eq, Bool.not_eq_true, Bool.not_eq_true', Bool.not_eq_false', btw_iff, btw_not', Int.not_lt, Int.not_le] at *); (all_goals (try simp [Pu.start, *]); all_goals (try (repeat' split)); all_goals (try first | rfl | omega | (exfalso; omega) | (simp_all; done) | (simp_all; omega) | (constructor <;> omega))))

theorem movesAt_some (fs : List (Int × Int)) (t : Int) (k : Nat) (h : ∀ j (_ : j < fs.length), j < k → (fs[j].1 == t) = false) (hk : k < fs.length) (hp : (fs[k].1 == t) = true) :
    Pu.movesAt fs t = if fs[k].2 = 1 then 0 else 2 := by
  have : fs.find? (fun f => f.1 == t) = some fs[k] := by
    rw [List.find?_eq_some_iff_getElem]
    exact ⟨hp, k, hk, rfl, fun j hj => by simp [h j (by omega) hj]⟩
  simp [Pu.movesAt, this]

set_option maxHeartbeats 400000 in
theorem refMoves_any (a : Option Addr) (cp : Nat) (fs : List (Int × Int)) (t : Int) (w : World) (hf : IsPairs w a fs) :
    Calls Try.prog 44 #[.slice a fs.length cp, .int .i64 t] w (Ret w (.int .i64 (Pu.movesAt fs t))) := by
  have hlen := hf.1
  have HZ := Lib.hid hf; clear hf
  go_enter Try.func44, Try.ntmps44
  go_wp2
  go_loop [5] (fun i => ∃ k : Nat, k ≤ fs.length ∧ i = .int .i64 k ∧ (∀ j (_ : j < fs.length), j < k → (fs[j].1 == t) = false)) (fun i => fs.length - (intOf i).toNat)
  case atStart => exact ⟨0, Nat.zero_le _, rfl, fun j _ hj => by omega⟩
  case round =>
    obtain ⟨k, hk, rfl, hno⟩ := hrel
    have HN := Lib.hid hno; clear hno
    by_cases hlt : k < fs.length
    · obtain ⟨b, o, rfl, hbl, hc, hd⟩ := HZ.out.2 k hlt
      go_wp2
      · have h1 : (fs[k].1 == t) = true := by assumption
        have h2 : (fs[k].2 == 1) = true := by assumption
        go_ret
        exact ret_int (movesAt_some fs t k HN.out hlt h1 ▸ by simp_all) (by repeat first | exact Below.refl _ _ | assumption | (refine Below.alloc ?_ (by first | omega | (simp; done) | (simp; omega)) _) | (refine Below.setCell ?_ (by first | omega | (simp; done) | (simp; omega)) _) | (refine Below.drew ?_) | (refine belowDrewN ?_) | (refine Below.trans ?_ (Below.mono (by assumption) (by first | omega | (simp; done) | (simp; omega)))))
      · have h1 : (fs[k].1 == t) = true := by assumption
        have h2 : (fs[k].2 == 1) = false := by assumption
        go_ret
        exact ret_int (movesAt_some fs t k HN.out hlt h1 ▸ by simp_all) (by repeat first | exact Below.refl _ _ | assumption | (refine Below.alloc ?_ (by first | omega | (simp; done) | (simp; omega)) _) | (refine Below.setCell ?_ (by first | omega | (simp; done) | (simp; omega)) _) | (refine Below.drew ?_) | (refine belowDrewN ?_) | (refine Below.trans ?_ (Below.mono (by assumption) (by first | omega | (simp; done) | (simp; omega)))))
      · have h1 : (fs[k].1 == t) = false := by assumption
        have HP := Lib.hid h1
        exact ⟨⟨k + 1, by omega, by go_num, fun j h1 h2 => by rcases Nat.lt_succ_iff_lt_or_eq.1 h2 with h | h; exact HN.out j h1 h; subst h; exact HP.out⟩, by simp [intOf]; omega⟩
    · go_wp2
      go_ret
      refine ret_int ?_ (by repeat first | exact Below.refl _ _ | assumption | (refine Below.alloc ?_ (by first | omega | (simp; done) | (simp; omega)) _) | (refine Below.setCell ?_ (by first | omega | (simp; done) | (simp; omega)) _) | (refine Below.drew ?_) | (refine belowDrewN ?_) | (refine Below.trans ?_ (Below.mono (by assumption) (by first | omega | (simp; done) | (simp; omega)))))
      have : fs.find? (fun f => f.1 == t) = none := by
        rw [List.find?_eq_none]
        intro x hx
        obtain ⟨i, hi, rfl⟩ := List.getElem_of_mem hx
        simp [HN.out i hi (by omega)]
      simp [Pu.movesAt, this]

end Go.Proofs.Ytpjlihkpnhamlaa
