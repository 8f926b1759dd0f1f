/- With how few faults a dial can have shown what was seen: the plain side. -/
import Derived.Test.YtjmkjlhnipnkcaaPfFewAfter
import Derived.Test.YtjmkjlhnipnkcaaPfFewSeen
set_option linter.unusedSimpArgs false
set_option linter.unusedVariables false
namespace Go.Proofs.Ytjmkjlhnipnkcaa
open Go.RowKit Go.Shelf Go.Maps
namespace Pu
def stepR (l : Ln) (t : Int) (R : Dl → Int → Prop) (d' : Dl) (c' : Int) : Prop :=
  ∃ d c, R d c ∧ ((d' = imp l t 1 d ∧ c' = c) ∨ (isLong l t = false ∧ c' = c + 1 ∧ (d' = imp l t 0 d ∨ d' = imp l t 2 d)))
def stepsR (l : Ln) (t : Int) (R : Dl → Int → Prop) : Nat → Dl → Int → Prop
  | 0 => R
  | n + 1 => stepR l (t + n + 1) (stepsR l t R n)
def filtR (sh : Int) (R : Dl → Int → Prop) (d : Dl) (c : Int) : Prop := R d c ∧ d.s = sh
def seenR (l : Ln) (R : Dl → Int → Prop) (t : Int) : List (Int × Int) → Dl → Int → Prop
  | [] => R
  | x :: rest => seenR l (filtR x.2 (stepsR l t R (x.1 - t).toNat)) x.1 rest
def startR (d0 : Dl) (d : Dl) (c : Int) : Prop := d = d0 ∧ c = 0
theorem MinOf.step {R : Dl → Int → Prop} {f g : Dl → Option Int} {l : Ln} {t : Int} (h : MinOf R f) (hg : MinOf (Contrib l t f (fun _ => True)) g) : MinOf (stepR l t R) g := by
  intro d';obtain ⟨h1, h2⟩ := hg d';refine ⟨fun c hc => ?_, fun c hc h20 => ?_⟩
  · obtain ⟨⟨d, x, hf, _, hx⟩, h20⟩ := h1 c hc;exact ⟨⟨d, x, ((h d).1 x hf).1, hx⟩, h20⟩
  · obtain ⟨d, x, hR, hx⟩ := hc;have hx20 : x ≤ 20 := by rcases hx with ⟨_, rfl⟩ | ⟨_, rfl, _⟩ <;> omega
    obtain ⟨x0, hf, hle⟩ := (h d).2 x hR hx20;rcases hx with ⟨hd, rfl⟩ | ⟨hl, rfl, hd⟩
    · obtain ⟨c', h3, h4⟩ := h2 x0 ⟨d, x0, hf, trivial, .inl ⟨hd, rfl⟩⟩ (by omega);exact ⟨c', h3, by omega⟩
    · obtain ⟨c', h3, h4⟩ := h2 (x0 + 1) ⟨d, x0, hf, trivial, .inr ⟨hl, rfl, hd⟩⟩ (by omega);exact ⟨c', h3, by omega⟩
theorem MinOf.filt {R : Dl → Int → Prop} {f : Dl → Option Int} (h : MinOf R f) (sh : Int) : MinOf (filtR sh R) (fun d => if d.s = sh then f d else none) := by
  intro d;obtain ⟨h1, h2⟩ := h d
  by_cases q : d.s = sh
  · simp only [if_pos q];exact ⟨fun c hc => ⟨⟨(h1 c hc).1, q⟩, (h1 c hc).2⟩, fun c hc h20 => h2 c hc.1 h20⟩
  · simp only [if_neg q];exact ⟨fun c hc => (by cases hc), fun c hc h20 => absurd hc.2 q⟩
theorem MinOf.start (d0 : Dl) : MinOf (startR d0) (upd (fun _ => Option.none) d0 (some 0)) := by
  intro d;unfold upd startR
  by_cases q : d = d0
  · subst q;simp only [if_true];exact ⟨fun c hc => by cases hc; exact ⟨⟨trivial, rfl⟩, by omega⟩, fun c hc _ => ⟨0, rfl, by omega⟩⟩
  · simp only [if_neg q];exact ⟨fun c hc => (by cases hc), fun c hc _ => absurd hc.1 q⟩
def NoneR (R : Dl → Int → Prop) : Prop := ∀ d c, R d c → 20 < c
theorem NoneR.step {R : Dl → Int → Prop} {l : Ln} {t : Int} (h : NoneR R) : NoneR (stepR l t R) := by
  rintro d' c' ⟨d, c, hR, hx⟩
  have := h d c hR;rcases hx with ⟨_, rfl⟩ | ⟨_, rfl, _⟩ <;> omega
theorem NoneR.steps {R : Dl → Int → Prop} {l : Ln} {t : Int} {n : Nat} (h : NoneR (stepsR l t R n)) : ∀ k, NoneR (stepsR l t R (n + k))
  | 0 => h
  | k + 1 => (NoneR.steps h k).step
theorem NoneR.minOf {R : Dl → Int → Prop} {g : Dl → Option Int} (h : NoneR R) (hg : ∀ d, g d = none) : MinOf R g :=
  fun d => ⟨fun c hc => (by rw [hg] at hc; cases hc), fun c hc h20 => absurd (h d c hc) (by omega)⟩
theorem MinOf.none {R : Dl → Int → Prop} {g : Dl → Option Int} (h : MinOf R g) (hg : ∀ d, g d = none) : NoneR R := fun d c hc => by
  rcases Int.lt_or_le 20 c with q | q
  · exact q
  · obtain ⟨c', h1, _⟩ := (h d).2 c hc q;rw [hg] at h1;cases h1
def OkR (B : Int) (R : Dl → Int → Prop) : Prop := ∀ d c, R d c → d.ok B ∧ 0 ≤ c
theorem OkR.step {R : Dl → Int → Prop} {l : Ln} {t B : Int} (h : OkR B R) (hB : 0 ≤ B) : OkR (B + 2) (stepR l t R) := by
  rintro d' c' ⟨d, c, hR, hx⟩
  obtain ⟨h1, h2⟩ := h d c hR;rcases hx with ⟨rfl, rfl⟩ | ⟨_, rfl, rfl | rfl⟩
  · have := imp_ok (l := l) (t := t) (m := 1) h1 hB; unfold Dl.ok at *; omega
  · have := imp_ok (l := l) (t := t) (m := 0) h1 hB; unfold Dl.ok at *; omega
  · have := imp_ok (l := l) (t := t) (m := 2) h1 hB; unfold Dl.ok at *; omega
theorem OkR.steps {R : Dl → Int → Prop} {l : Ln} {t B : Int} (h : OkR B R) (hB : 0 ≤ B) : ∀ n : Nat, OkR (B + 2 * n) (stepsR l t R n)
  | 0 => by simpa [stepsR] using h
  | n + 1 => by
    have := (OkR.steps (l := l) (t := t) h hB n).step (l := l) (t := t + n + 1) (by omega);intro d c hc;have := this d c hc;unfold Dl.ok at *
    omega
theorem OkR.filt {R : Dl → Int → Prop} {B sh : Int} (h : OkR B R) : OkR B (filtR sh R) := fun d c hc => h d c hc.1
def lastS : Int → List (Int × Int) → Int
  | t, [] => t
  | _, x :: tl => lastS x.1 tl
theorem lastS_snoc (x : Int × Int) : ∀ (t : Int) (fs : List (Int × Int)), lastS t (fs ++ [x]) = x.1
  | _, [] => rfl
  | _, y :: tl => lastS_snoc x y.1 tl
theorem seenR_snoc (l : Ln) (x : Int × Int) : ∀ (fs : List (Int × Int)) (R : Dl → Int → Prop) (t : Int), seenR l R t (fs ++ [x]) = filtR x.2 (stepsR l (lastS t fs) (seenR l R t fs) (x.1 - lastS t fs).toNat)
  | [], R, t => rfl
  | y :: tl, R, t => seenR_snoc l x tl _ _
def FewSpec (R : Dl → Int → Prop) (n e : Int) : Prop := (e = 0 ∧ n ≤ 20 ∧ (∃ d, R d n) ∧ ∀ d c, R d c → n ≤ c) ∨ (e = 7 ∧ n = 0 ∧ NoneR R)
def FewOut (l : Ln) (sh f : Int) (fs : List (Int × Int)) (n e : Int) : Prop :=
  if lineErr l.r l.e l.c ≠ 0 then n = 0 ∧ e = lineErr l.r l.e l.c else if btw 0 100000 f = false then n = 0 ∧ e = 3 else if btw 0 719 sh = false then n = 0 ∧ e = 2
  else if seenErr f fs ≠ 0 then n = 0 ∧ e = seenErr f fs else FewSpec (seenR l (startR (start l sh f)) f fs) n e
end Pu
end Go.Proofs.Ytjmkjlhnipnkcaa
