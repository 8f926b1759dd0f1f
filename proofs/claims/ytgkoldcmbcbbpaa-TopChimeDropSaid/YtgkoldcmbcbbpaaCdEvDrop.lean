/- When a weight is down, in plain terms. -/
import Derived.Test.YtgkoldcmbcbbpaaCdGDrop
import Derived.Test.YtgkoldcmbcbbpaaCdSpDrop
import Derived.Test.YtgkoldcmbcbbpaaCdEvL
set_option linter.unusedSimpArgs false
set_option linter.unusedVariables false
namespace Go.Proofs.Ytgkoldcmbcbbpaa.Sy
open Go.RowKit
set_option maxRecDepth 100000
def goesG (us : List Int) : Nat → Int → Nat → Nat
  | 0, _, h => h
  | k + 1, left, h => if us.getD (h % 24) 0 ≤ left then goesG us k (left - us.getD (h % 24) 0) (h + 1) else h
structure OkH (hs : List (Int × Int)) : Prop where
  len : hs.length = 24
  ok : ∀ x ∈ hs, 0 ≤ x.1 ∧ x.1 ≤ x.2 ∧ x.2 ≤ 3000
theorem ev_goes_l {n : Nat} {c1 : Int} {hs : List (Int × Int)} {v : List (Int × Int × Int × Int)} (hh : OkH hs) {f : Int × Int → Option Int} {sel : Int × Int → Int} (hf : ∀ x, f x = some (sel x)) (hsel : ∀ x ∈ hs, 0 ≤ sel x ∧ sel x ≤ 3000) : ∀ (k m : Nat) (left : Int) (h : Nat), h + k = 2000 → k < m → 0 ≤ left → left ≤ 3000 →
    ev_drop_clock_goes_l0 n c1 hs v f m left (h : Int) = some ((goesG (hs.map sel) k left h : Nat) : Int) := by
  intro k
  induction k with
  | zero =>
    intro m left h hk hm _ _
    cases m with
    | zero => omega
    | succ m => rw [ev_drop_clock_goes_l0, cond_if, if_neg (by simp; omega)]; rfl
  | succ k ih =>
    intro m left h hk hm h0 h1
    cases m with
    | zero => omega
    | succ m =>
      have hl := hh.len;have hlt : h % 24 < hs.length := by rw [hl]; exact Nat.mod_lt _ (by decide)
      have hu : ev_drop_clock_use n c1 hs v (h : Int) = some hs[h % 24] := by
        have e : Int.tmod (h : Int) 24 = ((h % 24 : Nat) : Int) := by rw [Int.tmod_eq_emod_of_nonneg (by omega)]; rfl
        rw [ev_drop_clock_use, e, idx_nat (List.getElem?_eq_getElem hlt)]
      have hg : (hs.map sel).getD (h % 24) 0 = sel hs[h % 24] := by
        rw [List.getD_eq_getElem?_getD, List.getElem?_map, List.getElem?_eq_getElem hlt]; rfl
      obtain ⟨g0, g1⟩ := hsel _ (List.getElem_mem hlt);have hf2 : f (hs[h % 24].1, hs[h % 24].2) = some (sel hs[h % 24]) := hf _;rw [ev_drop_clock_goes_l0, cond_if, if_pos (by simp; omega), bind_of hu, bind_of hf2, cond_if];simp only [goesG, hg]
      by_cases hc : sel hs[h % 24] ≤ left
      · rw [if_pos (by simpa using hc), if_pos hc, ev_drop_clock_goes_j1, bind_of hu, bind_of hf2, chk_of (in64_of (by omega)), chk_of (in64_of (by omega))];have := ih m (left - sel hs[h % 24]) (h + 1) (by omega) (by omega) (by omega) (by omega);rw [← this]; congr 1
      · rw [if_neg (by simpa using hc), if_neg hc]
theorem ev_areHours {n : Nat} (hn : 30 < n) {hs : List (Int × Int)} (hh : OkH hs) : ev_drop_areHours n hs = some true := by
  have hl := hh.len;rw [ev_drop_areHours, cond_if, if_pos (by simp [hl]), bind_of (cf_Lapi_Span_api_Span (g := fun _ => false) (fun x hx => ?_) (by omega) (by omega))]
  · simp
  · obtain ⟨h0, h1, h2⟩ := hh.ok x hx;have hs' : ev_drop_isSpan n x.1 x.2 3000 = some true := by
      rw [ev_drop_isSpan, bind_of (wi2_drop (by omega)), cond_if, if_pos (by simp; omega)];simp; exact h1
    show ev_drop_areHours_1 n x.1 x.2 = some false;rw [ev_drop_areHours_1, bind_of hs']; rfl
theorem ev_dropCheck {n : Nat} (hn : 30 < n) {c1 : Int} {hs : List (Int × Int)} (hc : 1 ≤ c1 ∧ c1 ≤ 3000) (hh : OkH hs) : ev_drop_Check n c1 hs = some 0 := by
  rw [ev_drop_Check, bind_of (wi1_drop (by omega)), cond_if, if_neg (by simp; omega), bind_of (ev_areHours hn hh), cond_if, if_neg (by simp)]
theorem ev_Goes {n : Nat} (hn : 2100 < n) {c1 : Int} {hs : List (Int × Int)} (hc : 1 ≤ c1 ∧ c1 ≤ 3000) (hh : OkH hs) {start : Int} (h0 : 0 ≤ start) (h1 : start ≤ c1) :
    ev_drop_Goes n c1 hs start 0 = some (((goesG (hs.map (·.2)) 2000 start 0 : Nat) : Int), ((goesG (hs.map (·.1)) 2000 start 0 : Nat) : Int), 0) := by
  rw [ev_drop_Goes, bind_of (ev_dropCheck (by omega) hc hh), cond_if, if_neg (by simp), bind_of (wi1_drop (by omega)), cond_if, if_neg (by simp; omega), bind_of (wi1_drop (by omega)), ev_drop_Goes_j0, cond_if, if_neg (by simp),
    bind_of (show ev_drop_clock_goes n c1 hs [] start 0 (fun a => ev_drop_high n a.1 a.2) = _ from ev_goes_l hh (sel := (·.2)) (fun x => by rw [ev_drop_high]) (fun x hx => ⟨by have := hh.ok x hx; omega, (hh.ok x hx).2.2⟩) 2000 n start 0 (by omega) (by omega) h0 (by omega)),
    bind_of (show ev_drop_clock_goes n c1 hs [] start 0 (fun a => ev_drop_low n a.1 a.2) = _ from ev_goes_l hh (sel := (·.1)) (fun x => by rw [ev_drop_low]) (fun x hx => ⟨(hh.ok x hx).1, by have := hh.ok x hx; omega⟩) 2000 n start 0 (by omega) (by omega) h0 (by omega))]
end Go.Proofs.Ytgkoldcmbcbbpaa.Sy
