/- Rounds: rules in small numbers are right. -/
import Derived.Test.YtohjpfkcahlfkaaPeEvRoundG
import Derived.Test.YtohjpfkcahlfkaaPeEvRoundBy
set_option linter.unusedSimpArgs false
set_option linter.unusedVariables false
namespace Go.Proofs.Ytohjpfkcahlfkaa.Sy
open Go.RowKit
set_option maxRecDepth 100000
theorem wrap8 (z : Int) : 0 ≤ IntKind.u8.wrap z ∧ IntKind.u8.wrap z ≤ 255 := by
  simp only [IntKind.wrap];simp [IntKind.bits, IntKind.signed]
  omega
theorem inK16_of {z : Int} (h : 0 ≤ z ∧ z ≤ 65535) : inK .u16 z = true := by
  simp only [inK, fits, IntKind.wrap, decide_eq_true_eq];simp [IntKind.bits, IntKind.signed]
  omega
theorem bit8 (op : BinOp) (x y : Int) : 0 ≤ bitK .u8 op x y ∧ bitK .u8 op x y ≤ 255 := by
  cases op <;> exact wrap8 _
abbrev TowOk (x : Tw) : Prop := (0 ≤ x.1 ∧ x.1 ≤ 120) ∧ (0 ≤ x.2.1 ∧ x.2.1 ≤ 120) ∧ (0 ≤ x.2.2.2.1 ∧ x.2.2.2.1 ≤ 1000) ∧ (1 ≤ x.2.2.2.2 ∧ x.2.2.2.2 ≤ 30)
abbrev WinOk (x : Wd) : Prop := (0 ≤ x.2.1 ∧ x.2.1 ≤ 100) ∧ (1 ≤ x.2.2.1 ∧ x.2.2.1 ≤ 600) ∧ (1 ≤ x.2.2.2 ∧ x.2.2.2 ≤ 300) ∧ 0 ≤ x.1 ∧ x.1 ≤ 255
abbrev B8 (z : Int) : Prop := 0 ≤ z ∧ z ≤ 255
theorem tmod_of {a b : Int} (h : 0 ≤ a) : Int.tmod a b = a % b := Int.tmod_eq_emod_of_nonneg h
section
variable {n : Nat} (hn : 100 < n) {x1 : List Tw} {x2 : List Int} {x3 : List Wd}
variable (h1 : ∀ x ∈ x1, B8 x.1 ∧ B8 x.2.1 ∧ B8 x.2.2.1 ∧ B8 x.2.2.2.1 ∧ B8 x.2.2.2.2) (h2 : ∀ x ∈ x2, B8 x) (h3 : ∀ x ∈ x3, B8 x.1 ∧ B8 x.2.1 ∧ B8 x.2.2.1 ∧ B8 x.2.2.2)
include h3 in
theorem rules_j6 {i : Nat} {g l85 : List Wd} {a1 a2 a3 a4 a5 a6 : Int} {l80 l83 l86 : List Tw} {l81 : List Int} {l84 l87 : List (List Int)} {k : Int → Int → Int → Int → Int → Int → Int → (List (Int × Int × Int × Int × Int)) → (List Int) → (List (Int × Int × Int × Int)) → (List (Int × Int × Int × Int × Int)) → (List ((List Int))) → (List (Int × Int × Int × Int)) → (List (Int × Int × Int × Int × Int)) → (List ((List Int))) → (List (Int × Int × Int × Int)) → Option ((List (Int × Int × Int × Int × Int)) × (List ((List Int))) × (List (Int × Int × Int × Int)) × Int × Int)} (hg : g.length ≤ 100) (hi : i ≤ 100) :
    ∃ y, WinOk y ∧ ev_law11_Town_rules_j6 n (i : Int) x3 g a1 a2 a3 a4 a5 a6 l80 l81 l83 l84 l85 l86 l87 k = k ((i + 1 : Nat) : Int) a1 a2 a3 a4 a5 a6 l80 l81 x3 l83 l84 l85 l86 l87 (g ++ [y]) := by
  rw [ev_law11_Town_rules_j6, cond_if]
  by_cases hlt : i < x3.length
  · obtain ⟨b1, b2, b3, b4⟩ := h3 _ (List.getElem_mem hlt);have e := tmod_of (b := 100) b2.1;have hb := bit8 .or x3[i].1 (IntKind.u8.wrap (x3[i].1 * (shK .u8 4 : Int)));rw [if_pos (decide_eq_true (by omega)), idx_nat (List.getElem?_eq_getElem hlt), chk_of (inK16_of (by omega)), chk_of (in64_of (by omega)), chk_of (in64_of (by omega)), chk_of (in64_of (by omega)), chk_of (in64_of (by omega)), chk_of (in64_of (by omega)), chk_of (in64_of (by omega)), chk_of (room_iff.2 (by simp; omega)), chk_of (in64_of (by omega)), e];refine ⟨(_, _, _, _), ?_, rfl⟩;simp only [WinOk]
    omega
  · rw [if_neg (by simp; omega), chk_of (room_iff.2 (by simp; omega)), chk_of (in64_of (by omega))];exact ⟨(_, _, _, _), by decide, rfl⟩
include h3 in
theorem rules_l5 {a1 a2 a3 a4 a5 a6 : Int} {l80 l83 l86 : List Tw} {l81 : List Int} {l84 l87 : List (List Int)} {l85 : List Wd} : ∀ (k m i : Nat) (g : List Wd), i + k = 3 → k < m → g.length = i → (∀ y ∈ g, WinOk y) →
    ∃ g', ev_law11_Town_rules_l5 n m (i : Int) a1 a2 a3 a4 a5 a6 l80 l81 x3 l83 l84 l85 l86 l87 g = some (l86, l87, g', a5, a6) ∧ 1 ≤ g'.length ∧ g'.length ≤ 3 ∧ ∀ y ∈ g', WinOk y := by
  intro k
  induction k with
  | zero =>
    intro m i g hi hm hg hw;obtain ⟨m, rfl⟩ : ∃ m', m = m' + 1 := ⟨m - 1, by omega⟩;refine ⟨g, ?_, by omega, by omega, hw⟩;rw [ev_law11_Town_rules_l5, cond_if, if_neg (by simp; omega), cond_if]
    split
    · rw [cond_if, if_neg (by simp; omega)]
    · rfl
  | succ k ih =>
    intro m i g hi hm hg hw;obtain ⟨m, rfl⟩ : ∃ m', m = m' + 1 := ⟨m - 1, by omega⟩;have hgo := fun kk => rules_j6 (n := n) h3 (i := i) (g := g) (a1 := a1) (a2 := a2) (a3 := a3) (a4 := a4) (a5 := a5) (a6 := a6) (l80 := l80) (l83 := l83) (l86 := l86) (l81 := l81) (l84 := l84) (l87 := l87) (l85 := l85) (k := kk) (by omega) (by omega)
    have hnext : ∀ y, WinOk y → ∃ g', ev_law11_Town_rules_l5 n m ((i + 1 : Nat) : Int) a1 a2 a3 a4 a5 a6 l80 l81 x3 l83 l84 l85 l86 l87 (g ++ [y]) = some (l86, l87, g', a5, a6) ∧ 1 ≤ g'.length ∧ g'.length ≤ 3 ∧ ∀ y ∈ g', WinOk y := fun y hy => ih m (i + 1) _ (by omega) (by omega) (by simp; omega) (fun z hz => by
      rcases List.mem_append.1 hz with hz | hz
      · exact hw z hz
      · rw [List.mem_singleton] at hz; rw [hz]; exact hy)
    rw [ev_law11_Town_rules_l5, cond_if]
    split
    · obtain ⟨y, hy, e⟩ := hgo _;rw [e]; exact hnext y hy
    · rename_i h0
      have h0 : ¬ i = 0 := by simpa using h0
      rw [cond_if]
      split
      · rw [cond_if, if_pos (by simp; omega)];obtain ⟨y, hy, e⟩ := hgo _;rw [e]; exact hnext y hy
      · exact ⟨g, rfl, by omega, by omega, hw⟩
def RowOk (i : Nat) (r : List Int) : Prop := (∀ x ∈ r, 0 ≤ x ∧ x ≤ 1440) ∧ ∀ x, r[i]? = some x → x = 0
include h2 in
theorem rules_l4 {t : List Tw} {i : Nat} (ht : t.length ≤ 5) (hi : i ≤ 5) {k3 : Int → Int → Int → Int → Int → Int → Int → (List (Int × Int × Int × Int × Int)) → (List Int) → (List (Int × Int × Int × Int)) → (List (Int × Int × Int × Int × Int)) → (List ((List Int))) → (List (Int × Int × Int × Int)) → (List (Int × Int × Int × Int × Int)) → (List ((List Int))) → (List (Int × Int × Int × Int)) → Option ((List (Int × Int × Int × Int × Int)) × (List ((List Int))) × (List (Int × Int × Int × Int)) × Int × Int)} {a1 a2 a3 a4 a5 a6 : Int} {l63 l66 l69 : List Tw} {l65 l68 l71 : List Wd} {l67 l70 : List (List Int)} (h70 : l70.length ≤ 100) : ∀ (k m c : Nat) (r : List Int), c + k = t.length + 1 → k < m → r.length = c → RowOk i r →
    ∃ r', r'.length = t.length + 1 ∧ RowOk i r' ∧ ev_law11_Town_rules_l4 n t (i : Int) k3 m (c : Int) a1 a2 a3 a4 a5 a6 r l63 x2 l65 l66 l67 l68 l69 l70 l71 = k3 ((i + 1 : Nat) : Int) a1 a2 a3 a4 a5 a6 l63 x2 l65 l66 l67 l68 l69 (l70 ++ [r']) l71 := by
  intro k
  induction k with
  | zero =>
    intro m c r hc hm hr hok;obtain ⟨m, rfl⟩ : ∃ m', m = m' + 1 := ⟨m - 1, by omega⟩;refine ⟨r, by omega, hok, ?_⟩;rw [ev_law11_Town_rules_l4, cond_if, if_neg (by simp; omega), chk_of (room_iff.2 (by simp; omega)), chk_of (in64_of (by omega))]
    rfl
  | succ k ih =>
    intro m c r hc hm hr hok;obtain ⟨m, rfl⟩ : ∃ m', m = m' + 1 := ⟨m - 1, by omega⟩;obtain ⟨b, hb, hb1, hb2⟩ := byteOf_ev (n := n) h2 (i := 7 * (i : Int) + c) (by omega);have e := tmod_of (b := 60) hb1;have happ : ∀ x, (0 ≤ x ∧ x ≤ 1440) → (i = c → x = 0) → RowOk i (r ++ [x]) := fun x hx hx0 => by
      refine ⟨fun z hz => ?_, fun z hz => ?_⟩
      · rcases List.mem_append.1 hz with hz | hz
        · exact hok.1 z hz
        · rw [List.mem_singleton] at hz; rw [hz]; exact hx
      · rw [List.getElem?_append] at hz
        split at hz
        · exact hok.2 z hz
        · rename_i hlt
          by_cases hic : i = c
          · rw [hic, hr, Nat.sub_self] at hz;simp at hz;rw [← hz]; exact hx0 hic
          · exfalso
            have : i - r.length = (i - r.length - 1) + 1 := by omega
            rw [this] at hz;simp at hz
    rw [ev_law11_Town_rules_l4, cond_if, if_pos (decide_eq_true (by omega)), chk_of (in64_of (by omega)), chk_of (in64_of (by omega)), bind_of hb, cond_if]
    split
    · rename_i hic
      have hic : i = c := by simp at hic; omega
      rw [chk_of (room_iff.2 (by simp; omega)), chk_of (in64_of (by omega))];exact ih m (c + 1) _ (by omega) (by omega) (by simp; omega) (happ 0 (by decide) fun _ => rfl)
    · rename_i hic
      have hic : ¬ i = c := by simp at hic; omega
      rw [chk_of (room_iff.2 (by simp; omega)), chk_of (in64_of (by omega)), e];exact ih m (c + 1) _ (by omega) (by omega) (by simp; omega) (happ _ (by omega) fun h => absurd h hic)
include hn h2 h3 in
theorem rules_l3 {t l50 : List Tw} (ht : t.length ≤ 5) {a1 a2 a3 a4 a5 a6 : Int} {l46 : List Tw} {l49 : List Tw} {l48' l51' : List (List Int)} {l51 l54 : List Wd} : ∀ (k m i : Nat) (w : List (List Int)), i + k = t.length + 1 → k < m → w.length = i → (∀ r ∈ w, r.length = t.length + 1) → (∀ (j : Nat) (r : List Int), w[j]? = some r → RowOk j r) →
    ∃ w' g', ev_law11_Town_rules_l3 n t m (i : Int) a1 a2 a3 a4 a5 a6 l46 x2 x3 l49 l51' l51 t w [] = some (t, w', g', a5, a6) ∧ w'.length = t.length + 1 ∧ (∀ r ∈ w', r.length = t.length + 1) ∧ (∀ (j : Nat) (r : List Int), w'[j]? = some r → RowOk j r) ∧ 1 ≤ g'.length ∧ g'.length ≤ 3 ∧ ∀ y ∈ g', WinOk y := by
  intro k
  induction k with
  | zero =>
    intro m i w hi hm hw hr hj;obtain ⟨m, rfl⟩ : ∃ m', m = m' + 1 := ⟨m - 1, by omega⟩;obtain ⟨g', e, hg⟩ := rules_l5 (n := n) h3 (a1 := a1) (a2 := a2) (a3 := a3) (a4 := a4) (a5 := a5) (a6 := a6) (l80 := l46) (l83 := l49) (l86 := t) (l81 := x2) (l84 := l51') (l87 := w) (l85 := l51) 3 n 0 [] rfl (by omega) rfl (by simp);refine ⟨w, g', ?_, by omega, hr, hj, hg⟩;rw [ev_law11_Town_rules_l3, cond_if, if_neg (by simp; omega)];exact e
  | succ k ih =>
    intro m i w hi hm hw hr hj;obtain ⟨m, rfl⟩ : ∃ m', m = m' + 1 := ⟨m - 1, by omega⟩;obtain ⟨r', hr1, hr2, e⟩ := rules_l4 (n := n) h2 ht (i := i) (by omega) (k3 := fun i39q i40q i41q i42q i43q i44q i45q l46q l47q l48q l49q l50q l51q l52q l53q l54q => ev_law11_Town_rules_l3 n t m i39q i40q i41q i42q i43q i44q i45q l46q l47q l48q l49q l50q l51q l52q l53q l54q) (a1 := a1) (a2 := a2) (a3 := a3) (a4 := a4) (a5 := a5) (a6 := a6) (l63 := l46) (l66 := l49) (l69 := t) (l65 := x3) (l68 := l51) (l71 := []) (l67 := l51') (l70 := w) (by omega) (t.length + 1) n 0 [] (by omega) (by omega) rfl ⟨by simp, by simp⟩;rw [ev_law11_Town_rules_l3, cond_if, if_pos (decide_eq_true (by omega))];rw [show ((0 : Nat) : Int) = 0 from rfl] at e;rw [e];refine ih m (i + 1) _ (by omega) (by omega) (by simp; omega) (fun z hz => ?_) (fun j z hz => ?_)
    · rcases List.mem_append.1 hz with hz | hz
      · exact hr z hz
      · rw [List.mem_singleton] at hz; rw [hz]; exact hr1
    · rw [List.getElem?_append] at hz
      split at hz
      · exact hj j z hz
      · rename_i hlt
        by_cases hji : j = i
        · rw [hji, hw, Nat.sub_self] at hz;simp at hz;rw [← hz, hji]; exact hr2
        · exfalso
          have : j - w.length = (j - w.length - 1) + 1 := by omega
          rw [this] at hz;simp at hz
include h1 in
theorem rules_j1 {i : Nat} {t l10 : List Tw} {i7 i9 i13 i14 i18 i19 : Int} {l11 l16 : List (List Int)} {l12 l17 l22 : List Wd} {l21 : List Int} {k : Int → Int → Int → (List (Int × Int × Int × Int × Int)) → (List ((List Int))) → (List (Int × Int × Int × Int)) → Int → Int → (List (Int × Int × Int × Int × Int)) → (List ((List Int))) → (List (Int × Int × Int × Int)) → Int → Int → (List (Int × Int × Int × Int × Int)) → (List Int) → (List (Int × Int × Int × Int)) → Option ((List (Int × Int × Int × Int × Int)) × (List ((List Int))) × (List (Int × Int × Int × Int)) × Int × Int)} (hg : t.length ≤ 100) (hi : i ≤ 100) :
    ∃ y, TowOk y ∧ ev_law11_Town_rules_j1 n (i : Int) x1 t i7 i9 l10 l11 l12 i13 i14 l16 l17 i18 i19 l21 l22 k = k ((i + 1 : Nat) : Int) i7 i9 l10 l11 l12 i13 i14 (t ++ [y]) l16 l17 i18 i19 x1 l21 l22 := by
  rw [ev_law11_Town_rules_j1, cond_if]
  by_cases hlt : i < x1.length
  · obtain ⟨b1, b2, b3, b4, b5⟩ := h1 _ (List.getElem_mem hlt);have hb := bit8 .and x1[i].2.2.1 (x1[i].2.2.1 / (shK .u8 4 : Int));rw [if_pos (decide_eq_true (by omega)), idx_nat (List.getElem?_eq_getElem hlt), chk_of (in64_of (by omega)), chk_of (in64_of (by omega)), chk_of (inK16_of (by omega)), chk_of (in64_of (by omega)), chk_of (in64_of (by omega)), tmod_of b1.1, tmod_of b2.1, tmod_of b4.1, tmod_of b5.1, chk_of (in64_of (by omega)), chk_of (room_iff.2 (by simp; omega)), chk_of (in64_of (by omega))];refine ⟨(_, _, _, _, _), ?_, rfl⟩;simp only [TowOk]
    omega
  · rw [if_neg (by simp; omega), chk_of (room_iff.2 (by simp; omega)), chk_of (in64_of (by omega))];exact ⟨(_, _, _, _, _), by decide, rfl⟩
structure OkQ (x : List Tw × List (List Int) × List Wd × Int × Int) : Prop where
  ok : OkR x.1 x.2.1 x.2.2.1 x.2.2.2.1 x.2.2.2.2
  t5 : x.1.length ≤ 5
  g3 : x.2.2.1.length ≤ 3
  win : ∀ y ∈ x.2.2.1, WinOk y
include hn h2 h3 in
theorem rules_j2 {t : List Tw} (ht : 1 ≤ t.length ∧ t.length ≤ 5) (htow : ∀ y ∈ t, TowOk y) {i7 i9 i13 i14 i18 i19 : Int} (h18 : 1 ≤ i18 ∧ i18 ≤ 1440) (h19 : 0 ≤ i19 ∧ i19 ≤ 1000) {l10 : List Tw} {l20 : List Tw} {l11 : List (List Int)} {l12 : List Wd} :
    ∃ x, ev_law11_Town_rules_j2 n i7 i9 i13 i14 i18 i19 l20 x2 x3 l10 l11 l12 t [] [] = some x ∧ OkQ x := by
  obtain ⟨w', g', e, w1, w2, w3, g1, g2, g3⟩ := rules_l3 hn h2 h3 ht.2 (a1 := i7) (a2 := i9) (a3 := i13) (a4 := i14) (a5 := i18) (a6 := i19) (l46 := l20) (l49 := l10) (l51' := l11) (l51 := l12) (l48' := []) (l50 := []) (l54 := []) (t.length + 1) n 0 [] (by omega) (by omega) rfl (by simp) (by simp);refine ⟨_, by rw [ev_law11_Town_rules_j2]; exact e, ⟨⟨by dsimp only; omega, by dsimp only; omega, w1, w2, ?_, ?_, htow, fun y hy => by have := g3 y hy; simp only [WinOk] at this; omega, h18, h19⟩, ht.2, g2, g3⟩⟩
  · intro r hr x hx;obtain ⟨j, hj⟩ := List.getElem?_of_mem hr;exact (w3 j r hj).1 x hx
  · intro i r hr;have hlen : i < w'.length := (List.getElem?_eq_some_iff.1 hr).1;have hr2 : r.length = t.length + 1 := w2 r (List.mem_of_getElem? hr);rw [List.getElem?_eq_getElem (show i < r.length by omega)];rw [(w3 i r hr).2 _ (List.getElem?_eq_getElem (show i < r.length by omega))]
include hn h1 h2 h3 in
theorem rules_l0 {i7 i9 i13 i14 i18 i19 : Int} (h18 : 1 ≤ i18 ∧ i18 ≤ 1440) (h19 : 0 ≤ i19 ∧ i19 ≤ 1000) {l10 : List Tw} {l11 : List (List Int)} {l12 : List Wd} : ∀ (k m i : Nat) (t : List Tw), i + k = 5 → k < m → t.length = i → (∀ y ∈ t, TowOk y) →
    ∃ x, ev_law11_Town_rules_l0 n m (i : Int) i7 i9 l10 l11 l12 i13 i14 t [] [] i18 i19 x1 x2 x3 = some x ∧ OkQ x := by
  intro k
  induction k with
  | zero =>
    intro m i t hi hm ht hw;obtain ⟨m, rfl⟩ : ∃ m', m = m' + 1 := ⟨m - 1, by omega⟩;have hgo := rules_j2 hn h2 h3 (t := t) (by omega) hw (i7 := i7) (i9 := i9) (i13 := i13) (i14 := i14) h18 h19 (l10 := l10) (l20 := x1) (l11 := l11) (l12 := l12);rw [ev_law11_Town_rules_l0, cond_if, if_neg (by simp; omega), cond_if]
    split
    · rw [cond_if, if_neg (by simp; omega)]; exact hgo
    · exact hgo
  | succ k ih =>
    intro m i t hi hm ht hw;obtain ⟨m, rfl⟩ : ∃ m', m = m' + 1 := ⟨m - 1, by omega⟩;have hgo := fun kk => rules_j1 (n := n) h1 (i := i) (t := t) (i7 := i7) (i9 := i9) (l10 := l10) (l11 := l11) (l12 := l12) (i13 := i13) (i14 := i14) (l16 := []) (l17 := []) (i18 := i18) (i19 := i19) (l21 := x2) (l22 := x3) (k := kk) (by omega) (by omega)
    have hnext := fun y (hy : TowOk y) => ih m (i + 1) (t ++ [y]) (by omega) (by omega) (by simp; omega) (fun z hz => by
      rcases List.mem_append.1 hz with hz | hz
      · exact hw z hz
      · rw [List.mem_singleton] at hz; rw [hz]; exact hy)
    rw [ev_law11_Town_rules_l0, cond_if]
    split
    · obtain ⟨y, hy, e⟩ := hgo _;rw [e]; exact hnext y hy
    · rename_i h0
      have h0 : ¬ i = 0 := by simpa using h0
      rw [cond_if]
      split
      · rw [cond_if, if_pos (by simp; omega)];obtain ⟨y, hy, e⟩ := hgo _;rw [e]; exact hnext y hy
      · exact rules_j2 hn h2 h3 (t := t) (by omega) hw (i7 := i7) (i9 := i9) (i13 := i13) (i14 := i14) h18 h19 (l10 := l10) (l20 := x1) (l11 := l11) (l12 := l12)
include hn h1 h2 h3 in
theorem rules_ev {x4 x5 : Int} (h4 : B8 x4) (h5 : B8 x5) : ∃ x, ev_law11_Town_rules n x1 x2 x3 x4 x5 = some x ∧ OkQ x := by
  rw [ev_law11_Town_rules, chk_of (in64_of (by omega)), tmod_of h4.1, tmod_of h5.1, chk_of (in64_of (by omega)), chk_of (in64_of (by omega))];exact rules_l0 hn h1 h2 h3 (by omega) (by omega) 5 n 0 [] rfl (by omega) rfl (by simp)
end
end Go.Proofs.Ytohjpfkcahlfkaa.Sy
