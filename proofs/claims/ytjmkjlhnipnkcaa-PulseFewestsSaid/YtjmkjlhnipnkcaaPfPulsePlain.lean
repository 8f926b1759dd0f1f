/- Secondary dials as plain functions on integers: no program here. -/
import Derived.Below
set_option linter.unusedSimpArgs false
set_option linter.unusedVariables false
namespace Go.Proofs.Ytjmkjlhnipnkcaa
namespace Pu
def lineErr (r e c : Int) : Int :=
  if r = 0 then (if e ≠ 0 ∨ c ≠ 0 then 2 else 0)
  else if r < 0 ∨ 3 < r ∨ e < 2 ∨ 360 < e ∨ 720 % e ≠ 0 ∨ c < 0 ∨ (e - 1) / 2 < c then 2 else 0
structure Ln where
  r : Int
  e : Int
  c : Int
structure Dl where
  s : Int
  k : Int
def Ln.ok (l : Ln) : Prop := (l.r = 0 ∧ l.e = 0 ∧ l.c = 0) ∨ (1 ≤ l.r ∧ l.r ≤ 3 ∧ 2 ≤ l.e ∧ l.e ≤ 360 ∧ 720 % l.e = 0 ∧ 0 ≤ l.c ∧ l.c ≤ (l.e - 1) / 2)
theorem ok_of_err {r e c : Int} (h : lineErr r e c = 0) : (Ln.mk r e c).ok := by
  unfold lineErr at h;unfold Ln.ok;simp only
  split at h
  · split at h <;> simp_all
  · split at h
    · simp at h
    · right
      omega
theorem err_two {r e c : Int} (h : lineErr r e c ≠ 0) : lineErr r e c = 2 := by
  unfold lineErr at *
  repeat' split
  all_goals simp_all
def isLong (l : Ln) (t : Int) : Bool := !(l.r == 0) && t % l.e == 0
def mv (l : Ln) (long : Bool) (d : Dl) : Dl := if l.r = 2 ∧ long = false ∧ d.s % l.e = l.e - 1 then d else ⟨(d.s + 1) % 720, d.k + 1⟩
def cby (l : Ln) (d : Dl) : Int :=
  if l.r = 1 then (if d.s % l.e ≤ l.c then -(d.s % l.e) else l.e - d.s % l.e)
  else if l.r = 2 then (l.e - d.s % l.e) % l.e else l.e - d.k
def cor (l : Ln) (d : Dl) : Dl := if -l.c ≤ cby l d ∧ cby l d ≤ l.c then ⟨(d.s + cby l d + 720) % 720, 0⟩ else ⟨d.s, 0⟩
def mvs (l : Ln) (long : Bool) : Nat → Dl → Dl
  | 0, d => d
  | n + 1, d => mv l long (mvs l long n d)
def imp (l : Ln) (t : Int) (m : Nat) (d : Dl) : Dl := if isLong l t = true then cor l (mvs l true m d) else mvs l false m d
def start (l : Ln) (s t : Int) : Dl := if l.r = 0 then ⟨s, 0⟩ else ⟨s, t % l.e⟩
def Dl.ok (B : Int) (d : Dl) : Prop := 0 ≤ d.s ∧ d.s < 720 ∧ 0 ≤ d.k ∧ d.k ≤ B
theorem mv_ok {l : Ln} {long : Bool} {d : Dl} {B : Int} (h : d.ok B) : (mv l long d).ok (B + 1) := by
  unfold mv Dl.ok at *
  split
  · omega
  · simp only; omega
theorem mvs_ok {l : Ln} {long : Bool} {d : Dl} {B : Int} (h : d.ok B) : ∀ n, (mvs l long n d).ok (B + n)
  | 0 => by simpa [mvs] using h
  | n + 1 => by
    have := mv_ok (l := l) (long := long) (mvs_ok (l := l) (long := long) h n);simp only [mvs];unfold Dl.ok at *
    omega
theorem cor_ok {l : Ln} {d : Dl} {B : Int} (h : d.ok B) (hB : 0 ≤ B) : (cor l d).ok 0 := by
  unfold cor Dl.ok at *
  split
  · simp only; omega
  · simp only; omega
theorem imp_ok {l : Ln} {t : Int} {m : Nat} {d : Dl} {B : Int} (h : d.ok B) (hB : 0 ≤ B) : (imp l t m d).ok (B + m) := by
  unfold imp
  split
  · have := cor_ok (l := l) (mvs_ok (l := l) (long := true) h m) (by omega);unfold Dl.ok at *
    omega
  · exact mvs_ok h m
theorem start_ok {l : Ln} (hl : l.ok) {s t : Int} (h0 : 0 ≤ s) (h1 : s < 720) (ht : 0 ≤ t) : (start l s t).ok 360 := by
  unfold start Dl.ok;rcases hl with ⟨a, b, c⟩ | ⟨a, b, c, d, _⟩
  · rw [if_pos a]; simp only; omega
  · rw [if_neg (by omega)];have := Int.emod_nonneg t (show l.e ≠ 0 by omega);have := Int.emod_lt_of_pos t (show 0 < l.e by omega);simp only; omega
end Pu
end Go.Proofs.Ytjmkjlhnipnkcaa
