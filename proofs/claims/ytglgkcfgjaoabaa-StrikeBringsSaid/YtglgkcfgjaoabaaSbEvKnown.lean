/- What the document's examples say. -/
import Derived.Test.YtglgkcfgjaoabaaSbEvCheck
import Derived.Test.YtglgkcfgjaoabaaSbEvMisses
set_option linter.unusedSimpArgs false
set_option linter.unusedVariables false
namespace Go.Proofs.Ytglgkcfgjaoabaa.Sy
open Go.RowKit
set_option maxRecDepth 100000
def afterE (h rack : Bool) (q : List (Int × Int)) (slot : Int) (hp : Int → Bool) (E : List (Int × Int)) : List (Int × Int) := canL (nN h) ((E.flatMap (contr h rack q slot hp)).foldl addC fun _ => none)
theorem canL_after {h rack : Bool} {q : List (Int × Int)} {slot : Int} {hp : Int → Bool} {f : Nat → Option Int} : canL (nN h) (afterF h rack q slot hp f) = afterE h rack q slot hp (canL (nN h) f) := rfl
def gapE (h rack : Bool) (q : List (Int × Int)) : Nat → Int → List (Int × Int) → List (Int × Int)
  | 0, _, E => E
  | k + 1, slot, E => gapE h rack q k (slot + 1) (afterE h rack q slot (fun _ => true) E)
theorem canL_gap {h rack : Bool} {q : List (Int × Int)} : ∀ (k : Nat) (slot : Int) (f : Nat → Option Int), canL (nN h) (gapF h rack q k slot f) = gapE h rack q k slot (canL (nN h) f) := by
  intro k
  induction k with
  | zero => intro slot f; rfl
  | succ k ih => intro slot f; exact ih (slot + 1) _
def missE (h rack : Bool) (q : List (Int × Int)) : List (Int × Int) → Int → List (Int × Int) → List (Int × Int)
  | [], _, E => E
  | x :: l, slot, E => missE h rack q l (x.1 + 1) (afterE h rack q x.1 (fun b => b == x.2) (gapE h rack q (x.1 - slot).toNat slot E))
theorem canL_miss {h rack : Bool} {q : List (Int × Int)} : ∀ (l : List (Int × Int)) (slot : Int) (f : Nat → Option Int), canL (nN h) (missF h rack q l slot f) = missE h rack q l slot (canL (nN h) f) := by
  intro l
  induction l with
  | nil => intro slot f; rfl
  | cons x l ih =>
    intro slot f;simp only [missF, missE];rw [ih, canL_after, canL_gap]
theorem nightE (k : Int) : canL (nN true) (firstF true false k) = (List.range 24).map fun p : Nat => ((p : Int), (0 : Int)) := by
  have : firstF true false k = fun _ => some 0 := by funext p; simp [firstF]
  rw [this]; rfl
theorem night1 : missE true false [(22, 38)] [(1, 1), (5, 2)] 1 ((List.range 24).map fun p : Nat => ((p : Int), (0 : Int))) = [(5, 1)] := by decide +kernel
theorem night2 : missE true false [(22, 38)] [(6, 4), (10, 3)] 6 ((List.range 24).map fun p : Nat => ((p : Int), (0 : Int))) = [] := by decide +kernel
theorem nightC : ev_strike_Check 3100 true false [(22, 38)] = some 0 := by decide +kernel
theorem nightM1 : ev_strike_Misses 3100 true false [(22, 38)] [(1, 1), (5, 2)] = some (1, [5], 0) := by
  have h := ev_MissesP (n := 3100) (by decide) (h := true) (rack := false) (q := [(22, 38)]) (by simp) nightC (l := [(1, 1), (5, 2)]) ⟨by simp, by simp, by simp, fun a b ha hb => by simp at ha hb; subst ha; subst hb; decide⟩ (x0 := (1, 1)) rfl (fun z hz => so_int z (by decide) (by
    rw [canL_miss, nightE, night1] at hz;have := hz.length_eq;simp [minE] at this
    omega) trivial)
  rw [canL_miss, nightE, night1] at h;exact h
theorem nightM2 : ev_strike_Misses 3100 true false [(22, 38)] [(6, 4), (10, 3)] = some (0, [], 9) := by
  have h := ev_MissesP (n := 3100) (by decide) (h := true) (rack := false) (q := [(22, 38)]) (by simp) nightC (l := [(6, 4), (10, 3)]) ⟨by simp, by simp, by simp, fun a b ha hb => by simp at ha hb; subst ha; subst hb; decide⟩ (x0 := (6, 4)) rfl (fun z hz => so_int z (by decide) (by
    rw [canL_miss, nightE, night2] at hz;rw [hz.length_eq];exact Nat.zero_le _) trivial)
  rw [canL_miss, nightE, night2] at h;exact h
theorem nightB1 : ev_strike_Blows 3100 true false [(22, 38)] 12 = some (6, 0) := by decide +kernel
theorem nightB2 : ev_strike_Blows 3100 true false [(22, 38)] 24 = some (0, 0) := by decide +kernel
theorem nightD : ev_strike_Day 3100 true false [(22, 38)] = some (121, 0) := by decide +kernel
theorem nightG : ev_strike_Bring 3100 true false [(22, 38)] 6 5 7 = some ([(1, false)], 1, 0) := by decide +kernel
theorem nightP : ev_strike_Play 3100 true false [(22, 38)] 7 9 [(0, true), (0, true)] = some (9, 0, 0) := by decide +kernel
theorem known_ev : ev_law05_known 3100 = some true := by
  have hn : ev_law05_night 3100 = some (true, false, [(22, 38)]) := rfl;rw [ev_law05_known, bind_of hn];simp only;rw [bind_of nightB1, bind_of hn];simp only;rw [bind_of nightB2, bind_of hn];simp only;rw [bind_of nightD, bind_of hn];simp only;rw [bind_of nightM1, bind_of hn];simp only;rw [bind_of nightM2, bind_of hn];simp only;rw [bind_of nightG, bind_of hn];simp only;rw [bind_of nightP]
  decide +kernel
end Go.Proofs.Ytglgkcfgjaoabaa.Sy
