/- The walk of pulse.faults.moves: the box of the faults to come is turned. -/
import Derived.Test.YtjmkjlhnipnkcaaPfPulseRefRun
import Derived.Test.YtjmkjlhnipnkcaaPfRange
set_option linter.unusedSimpArgs false
set_option linter.unusedVariables false
namespace Go.Proofs.Ytjmkjlhnipnkcaa
open Go.RowKit Go.Shelf
namespace Pu
def rest (fs : List (Int × Int)) (t : Int) : List (Int × Int) := match fs with | [] => [] | f :: tl => if f.1 = t then tl else f :: tl
def headMoves (fs : List (Int × Int)) (t : Int) : Nat := match fs with | [] => 1 | f :: _ => if f.1 = t then (if f.2 = 1 then 0 else 2) else 1
end Pu
def FBox (R : Nat → Prop) (w : World) (B : Nat) (fs : List (Int × Int)) : Prop := ∃ a cp, fs.length ≤ cp ∧ (fs ≠ [] → ∀ x, a = some x → R x.block) ∧ Blk w B #[.slice a fs.length cp] 91 ∧ IsPairs w a fs
def MovesPost (R : Nat → Prop) (w : World) (B : Nat) (fs : List (Int × Int)) (t : Int) (e : Ending) (w' : World) : Prop :=
  e = .returned (.int .i64 (Pu.headMoves fs t)) ∧ Keeps (fun b => b = B) w w' ∧ FBox R w' B (Pu.rest fs t)
theorem ispairs_ne {w : World} {b o B : Nat} {x y : Int} {l : Nat} {a : Option Addr} {n cp : Nat} {T : TypeId} (hB : Blk w B #[.slice a n cp] T) (h : w.cell? ⟨b, o, none⟩ = some (.int .i64 x)) : b ≠ B := by
  rintro rfl
  rw [World.cell?] at h;simp only [show w.heap[b]? = _ from hB] at h;rcases o with _ | o
  · simp at h
  · simp at h
theorem pick_one (W : World) : (Instr.index 25 (.agg #[.int .i64 0, .int .i64 0, .int .i64 2]) (.int .i64 1)).run Try.prog W = .ok (.int .i64 0) W := by
  kernel_rfl
theorem pick_two (W : World) : (Instr.index 25 (.agg #[.int .i64 0, .int .i64 0, .int .i64 2]) (.int .i64 2)).run Try.prog W = .ok (.int .i64 2) W := by
  kernel_rfl
set_option maxRecDepth 20000 in
set_option maxHeartbeats 400000 in
theorem moves_any (R : Nat → Prop) (B : Nat) (fs : List (Int × Int)) (t : Int) (w : World) (hf : FBox R w B fs) (hk : ∀ f ∈ fs, f.2 = 1 ∨ f.2 = 2) :
    Calls Try.prog 51 #[.pointer (some ⟨B, 0, none⟩), .int .i64 t] w (MovesPost R w B fs t) := by
  obtain ⟨a, cp, hcp, hR, hB, hp⟩ := hf;have hlen := hp.1;have c0 := hB.cell 0 rfl;have f0 := hB.free;have hlt := hB.lt;have x1 := pick_one; have x2 := pick_two
  cases fs with
  | nil =>
    go_enter Try.func51, Try.ntmps51
    go_wp2
    go_ret
    exact ⟨rfl, Keeps.refl _ _, a, cp, hcp, hR, hB, hp⟩
  | cons x tl =>
    obtain ⟨b, o, rfl, hbl, hc, hd⟩ := hp.2 0 (by simp);obtain ⟨p, q⟩ := x;simp at hc hd hlen hcp;have hne : b ≠ B := ispairs_ne (x := p) (y := 0) (l := 0) hB hc
    by_cases hx : p = t
    · subst hx;have htl : ∀ (o' : Nat) (v : Int), (o' = o + 2 ∨ tl = []) → v = Pu.headMoves ((p, q) :: tl) p → MovesPost R w B ((p, q) :: tl) p (.returned (.int .i64 v)) (w.setCell ⟨B, 0, none⟩ (.slice (some ⟨b, o', none⟩) tl.length (cp - 1))) := by
        intro o' v ho hv;refine ⟨by rw [hv], Keeps.setCell _ _ _ rfl, some ⟨b, o', none⟩, cp - 1, by simp [Pu.rest]; omega, fun _ x hx => by have := hR (by simp) ⟨b, o, none⟩ rfl; cases hx; exact this, ?_, ?_⟩
        · have := hB.set 0 (.slice (some ⟨b, o', none⟩) tl.length (cp - 1))
          simpa [Pu.rest] using this
        · simp only [Pu.rest, if_true];refine ⟨by omega, fun i hi => ?_⟩;rcases ho with rfl | rfl
          · obtain ⟨b', o', e, h1, h2, h3⟩ := hp.2 (i + 1) (by simp; omega);obtain ⟨rfl, rfl⟩ : b = b' ∧ o = o' := by simpa using e
            refine ⟨b, o + 2, rfl, by simpa using h1, ?_, ?_⟩
            · rw [World.cell?_of_block (Below.heap_setCell _ _ _ _ hne), show o + 2 + i * 2 = o + (i + 1) * 2 by omega]; exact h2
            · rw [World.cell?_of_block (Below.heap_setCell _ _ _ _ hne), show o + 2 + i * 2 + 1 = o + (i + 1) * 2 + 1 by omega]; exact h3
          · simp at hi
      have HT := Lib.hid htl; clear htl;rcases hk (p, q) (by simp) with hq | hq <;> (
        simp only at hq;subst hq
        go_enter Try.func51, Try.ntmps51
        go_wp2
        all_goals (first | (exfalso; omega) | (exfalso; simp_all; done) | skip)
        all_goals (go_ret)
        all_goals (first | exact HT.out _ _ (.inl rfl) (by simp [Pu.headMoves]) | exact HT.out _ _ (.inr (List.eq_nil_of_length_eq_zero (by omega))) (by simp [Pu.headMoves]) | (have hcc : cp - 1 = 0 := (by omega); have hl0 : tl.length = 0 := (by omega); have := HT.out o _ (.inr (List.eq_nil_of_length_eq_zero hl0)) rfl; simpa [hcc, hl0, Pu.headMoves] using this)))
    · go_enter Try.func51, Try.ntmps51
      go_wp2
      all_goals (first | (exfalso; omega) | (exfalso; simp_all; done) | skip)
      go_ret
      exact ⟨by simp [Pu.headMoves, hx], Keeps.refl _ _, by simpa [Pu.rest, hx] using ⟨_, cp, by simpa using hcp, (by simpa using hR), hB, hp⟩⟩
end Go.Proofs.Ytjmkjlhnipnkcaa
