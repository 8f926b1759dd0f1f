/- Rounds: the known calls, and copies. -/
import Derived.Test.YtohjpfkcahlfkaaPeGturretlaw11
import Derived.Test.YtohjpfkcahlfkaaPeEvL
set_option linter.unusedSimpArgs false
set_option linter.unusedVariables false
namespace Go.Proofs.Ytohjpfkcahlfkaa.Sy
open Go.RowKit
set_option maxRecDepth 100000
theorem ints_ev {n : Nat} {l : List Int} (h : l.length ≤ 1000000) : ev_law11_ints n l = some l := by
  rw [ev_law11_ints, chk_of (room_iff.2 (by simp; omega))]; rfl
theorem copied_ev {n : Nat} {t : List (Int × Int × Int × Int × Int)} {w : List (List Int)} {g : List (Int × Int × Int × Int)} {rest wage : Int} (hw : w.length < n) (hw2 : w.length ≤ 1000000) (h : ∀ d ∈ w, d.length ≤ 1000000) (ht : t.length ≤ 1000000) (hg : g.length ≤ 1000000) :
    ev_law11_copied n t w g rest wage = some (t, w, g, rest, wage) := by
  have key : ∀ (k m i : Nat), i + k = w.length → k < m → ev_law11_copied_l0 n m (i : Int) rest wage ([] : List (Int × Int × Int × Int × Int)) ([] : List ((List Int))) ([] : List (Int × Int × Int × Int)) 0 0 (w.take i) t w g = some (t, w, g, rest, wage) := by
    intro k
    induction k with
    | zero =>
      intro m i hi hm;obtain ⟨m, rfl⟩ : ∃ m', m = m' + 1 := ⟨m - 1, by omega⟩;rw [ev_law11_copied_l0, cond_if, if_neg (by simp; omega), List.take_of_length_le (by omega)]
    | succ k ih =>
      intro m i hi hm;obtain ⟨m, rfl⟩ : ∃ m', m = m' + 1 := ⟨m - 1, by omega⟩;have hlt : i < w.length := by omega
      rw [ev_law11_copied_l0, cond_if, if_pos (decide_eq_true (by omega)), idx_nat (List.getElem?_eq_getElem hlt), bind_of (ints_ev (h _ (List.getElem_mem hlt))), chk_of (room_iff.2 (by rw [List.length_take]; simp; omega)), chk_of (in64_of (by omega))];have := ih m (i + 1) (by omega) (by omega);rw [List.take_succ_eq_append_getElem hlt] at this;exact this
  rw [ev_law11_copied, chk_of (room_iff.2 (by simp; omega)), chk_of (room_iff.2 (by simp; omega))];exact key w.length n 0 (by omega) hw
end Go.Proofs.Ytohjpfkcahlfkaa.Sy
