/- Rounds: shares are compared; the parts of a set. -/
import Derived.Test.YtohjpfkcahlfkaaPeEvRoundBe
import Derived.Test.YtohjpfkcahlfkaaPeEvRoundKm
import Derived.Test.YtohjpfkcahlfkaaPeGRound
import Derived.Test.YtohjpfkcahlfkaaPeEvMap
set_option linter.unusedSimpArgs false
set_option linter.unusedVariables false
namespace Go.Proofs.Ytohjpfkcahlfkaa.Sy
open Go.RowKit
set_option maxRecDepth 100000
abbrev Trp := Int × List Int
abbrev Shr := List Trp × Int
def sgnP (a b : List Int) : Int := if lx a b = true then -1 else if lx b a = true then 1 else 0
def cmpP (a b : Int) : Int := if a < b then -1 else if b < a then 1 else 0
theorem cmp_ev {n : Nat} {a b : Int} : ev_cmp_Compare_int n a b = some (cmpP a b) := by
  have e : ∀ z : Int, (z != z) = false := fun z => by simp
  rw [ev_cmp_Compare_int, ev_cmp_isNaN_int, ev_cmp_isNaN_int, Option.bind_some, Option.bind_some, e, e];show cond (decide (a < b)) (some (-1)) (cond (decide (b < a)) (some 1) (some 0)) = _;rw [cond_if, cond_if, cmpP]
  by_cases h1 : a < b
  · rw [if_pos (decide_eq_true h1), if_pos h1]
  · rw [if_neg (by simpa using h1), if_neg h1]
    by_cases h2 : b < a
    · rw [if_pos (decide_eq_true h2), if_pos h2]
    · rw [if_neg (by simpa using h2), if_neg h2]
theorem compare_ev {n : Nat} {a b : List Int} (ha : a.length ≤ 10000) (hb : b.length ≤ 10000) (hn : a.length < n) : ev_slices_Compare_Lint_int n a b = some (sgnP a b) := by
  have key : ∀ (k m i : Nat), i + k = a.length → k < m → i ≤ b.length → ev_slices_Compare_Lint_int_l0 n a b m (i : Int) = some (sgnP (a.drop i) (b.drop i)) := by
    intro k
    induction k with
    | zero =>
      intro m i hi hm hib;obtain ⟨m, rfl⟩ : ∃ m', m = m' + 1 := ⟨m - 1, by omega⟩;rw [ev_slices_Compare_Lint_int_l0, cond_if, if_neg (by simp; omega), cond_if, show a.drop i = [] from List.drop_eq_nil_of_le (by omega)]
      by_cases h : i < b.length
      · rw [if_pos (decide_eq_true (by omega)), List.drop_eq_getElem_cons h]; rfl
      · rw [if_neg (by simp; omega), show b.drop i = [] from List.drop_eq_nil_of_le (by omega)]; rfl
    | succ k ih =>
      intro m i hi hm hib;obtain ⟨m, rfl⟩ : ∃ m', m = m' + 1 := ⟨m - 1, by omega⟩;have hlt : i < a.length := by omega
      rw [ev_slices_Compare_Lint_int_l0, cond_if, if_pos (decide_eq_true (by omega)), idx_nat (List.getElem?_eq_getElem hlt), cond_if, List.drop_eq_getElem_cons hlt]
      by_cases h : i < b.length
      · rw [if_neg (by simp; omega), idx_nat (List.getElem?_eq_getElem h), cmp_ev, Option.bind_some, cond_if, List.drop_eq_getElem_cons h, cmpP, sgnP, lx, lx];rcases Int.lt_trichotomy a[i] b[i] with h1 | h1 | h1
        · rw [if_pos h1, if_pos (by simp), if_neg (show ¬ a[i] = b[i] by omega), if_pos (decide_eq_true h1)]
        · rw [if_neg (show ¬ a[i] < b[i] by omega), if_neg (show ¬ b[i] < a[i] by omega), if_neg (by simp), if_pos h1, if_pos h1.symm, chk_of (in64_of (by omega))];exact ih m (i + 1) (by omega) (by omega) (by omega)
        · rw [if_neg (show ¬ a[i] < b[i] by omega), if_pos h1, if_pos (by simp), if_neg (show ¬ a[i] = b[i] by omega), if_neg (by simp; omega), if_neg (show ¬ b[i] = a[i] by omega), if_pos (decide_eq_true h1)]
      · rw [if_pos (decide_eq_true (by omega)), show b.drop i = [] from List.drop_eq_nil_of_le (by omega), sgnP, lx_nil, if_neg (by simp), lx, if_pos rfl]
  have := key a.length n 0 (by omega) hn (by omega);rw [List.drop_zero, List.drop_zero] at this;exact this
def sgnT : List Trp → List Trp → Int
  | [], [] => 0
  | [], _ :: _ => -1
  | _ :: _, [] => 1
  | a :: l, b :: m => if sgnP a.2 b.2 ≠ 0 then sgnP a.2 b.2 else sgnT l m
theorem compareT_ev {n : Nat} {a b : List Trp} (ha : a.length ≤ 100) (hb : b.length ≤ 100) (hn : 200 < n) (la : ∀ x ∈ a, x.2.length ≤ 100) (lb : ∀ x ∈ b, x.2.length ≤ 100) : ev_slices_CompareFunc_Lapi_RoundTrip_Lapi_RoundTrip_api_RoundTrip_api_RoundTrip n a b = some (sgnT a b) := by
  have key : ∀ (k m i : Nat), i + k = a.length → k < m → i ≤ b.length → ev_slices_CompareFunc_Lapi_RoundTrip_Lapi_RoundTrip_api_RoundTrip_api_RoundTrip_l0 n a m (i : Int) a b = some (sgnT (a.drop i) (b.drop i)) := by
    intro k
    induction k with
    | zero =>
      intro m i hi hm hib;obtain ⟨m, rfl⟩ : ∃ m', m = m' + 1 := ⟨m - 1, by omega⟩;rw [ev_slices_CompareFunc_Lapi_RoundTrip_Lapi_RoundTrip_api_RoundTrip_api_RoundTrip_l0, cond_if, if_neg (by simp; omega), cond_if, show a.drop i = [] from List.drop_eq_nil_of_le (by omega)]
      by_cases h : i < b.length
      · rw [if_pos (decide_eq_true (by omega)), List.drop_eq_getElem_cons h]; rfl
      · rw [if_neg (by simp; omega), show b.drop i = [] from List.drop_eq_nil_of_le (by omega)]; rfl
    | succ k ih =>
      intro m i hi hm hib;obtain ⟨m, rfl⟩ : ∃ m', m = m' + 1 := ⟨m - 1, by omega⟩;have hlt : i < a.length := by omega
      have l1 := la _ (List.getElem_mem hlt);rw [ev_slices_CompareFunc_Lapi_RoundTrip_Lapi_RoundTrip_api_RoundTrip_api_RoundTrip_l0, cond_if, if_pos (decide_eq_true (by omega)), idx_nat (List.getElem?_eq_getElem hlt), cond_if, List.drop_eq_getElem_cons hlt]
      by_cases h : i < b.length
      · have l2 := lb _ (List.getElem_mem h);have e : ev_round_share_compare_1 n a[i].1 a[i].2 b[i].1 b[i].2 = some (sgnP a[i].2 b[i].2) := by
          rw [ev_round_share_compare_1, bind_of (compare_ev (by omega) (by omega) (by omega))]
        rw [if_neg (by simp; omega), idx_nat (List.getElem?_eq_getElem h), bind_of e, cond_if, List.drop_eq_getElem_cons h, sgnT]
        by_cases h0 : sgnP a[i].2 b[i].2 = 0
        · rw [if_neg (by simpa using h0), if_neg (by simpa using h0), chk_of (in64_of (by omega))];exact ih m (i + 1) (by omega) (by omega) (by omega)
        · rw [if_pos (by simpa using h0), if_pos h0]
      · rw [if_pos (decide_eq_true (by omega)), show b.drop i = [] from List.drop_eq_nil_of_le (by omega)]; rfl
  have := key a.length n 0 (by omega) (by omega) (by omega);rw [List.drop_zero, List.drop_zero] at this;exact this
theorem winders_ev {n : Nat} {a : List Trp} {x : Int} (ha : a.length ≤ 100) (hn : 200 < n) : ev_round_share_winders n a x = some (a.map (·.1)) := by
  have key : ∀ (k m i : Nat), i + k = a.length → k < m → ev_round_share_winders_l0 n a m ((a.take i).map (·.1)) (i : Int) a = some (a.map (·.1)) := by
    intro k
    induction k with
    | zero =>
      intro m i hi hm;obtain ⟨m, rfl⟩ : ∃ m', m = m' + 1 := ⟨m - 1, by omega⟩;rw [ev_round_share_winders_l0, cond_if, if_neg (by simp; omega), List.take_of_length_le (by omega)]
    | succ k ih =>
      intro m i hi hm;obtain ⟨m, rfl⟩ : ∃ m', m = m' + 1 := ⟨m - 1, by omega⟩;have hlt : i < a.length := by omega
      have := ih m (i + 1) (by omega) (by omega);rw [List.take_succ_eq_append_getElem hlt, List.map_append] at this;rw [ev_round_share_winders_l0, cond_if, if_pos (decide_eq_true (by omega)), idx_nat (List.getElem?_eq_getElem hlt), chk_of (room_iff.2 (by simp; omega)), chk_of (in64_of (by omega))];exact this
  exact key a.length n 0 (by omega) (by omega)
def orP (a b c d : Int) : Int := if a ≠ 0 then a else if b ≠ 0 then b else if c ≠ 0 then c else d
theorem or_ev {n : Nat} (hn : 10 < n) {a b c d : Int} : ev_cmp_Or_int n [a, b, c, d] = some (orP a b c d) := by
  obtain ⟨m, rfl⟩ : ∃ m, n = m + 1 + 1 + 1 + 1 + 1 := ⟨n - 5, by omega⟩;rw [ev_cmp_Or_int, ev_cmp_Or_int_l0, cond_if, if_pos (by simp), idx_of (x := a) (by decide) rfl, cond_if, orP]
  by_cases h1 : a = 0
  · rw [if_neg (by simpa using h1), if_neg (by simpa using h1), chk_of (by decide), ev_cmp_Or_int_l0, cond_if, if_pos (by simp), idx_of (x := b) (by decide) rfl, cond_if]
    by_cases h2 : b = 0
    · rw [if_neg (by simpa using h2), if_neg (by simpa using h2), chk_of (by decide), ev_cmp_Or_int_l0, cond_if, if_pos (by simp), idx_of (x := c) (by decide) rfl, cond_if]
      by_cases h3 : c = 0
      · rw [if_neg (by simpa using h3), if_neg (by simpa using h3), chk_of (by decide), ev_cmp_Or_int_l0, cond_if, if_pos (by simp), idx_of (x := d) (by decide) rfl, cond_if]
        by_cases h4 : d = 0
        · rw [if_neg (by simpa using h4), chk_of (by decide), ev_cmp_Or_int_l0, cond_if, if_neg (by simp), h4]
        · rw [if_pos (by simpa using h4)]
      · rw [if_pos (by simpa using h3), if_pos h3]
    · rw [if_pos (by simpa using h2), if_pos h2]
  · rw [if_pos (by simpa using h1), if_pos h1]
def sgnS (a b : Shr) : Int := orP (cmpP a.1.length b.1.length) (cmpP a.2 b.2) (sgnP (a.1.map (·.1)) (b.1.map (·.1))) (sgnT a.1 b.1)
structure OkS (a : Shr) : Prop where
  len : a.1.length ≤ 100
  st : ∀ x ∈ a.1, x.2.length ≤ 100
theorem share_ev {n : Nat} (hn : 200 < n) {a b : Shr} (ha : OkS a) (hb : OkS b) : ev_round_share_compare n a.1 a.2 b.1 b.2 = some (sgnS a b) := by
  have h1 := ha.len;have h2 := hb.len;rw [ev_round_share_compare, cmp_ev, Option.bind_some, cmp_ev, Option.bind_some, bind_of (winders_ev h1 hn), bind_of (winders_ev h2 hn), bind_of (compare_ev (by rw [List.length_map]; omega) (by rw [List.length_map]; omega) (by rw [List.length_map]; omega)), bind_of (compareT_ev h1 h2 hn ha.st hb.st), bind_of (or_ev (by omega))]
  rfl
def ltS (a b : Shr) : Prop := sgnS a b < 0
theorem ltS_key {a b : Shr} : (ltS a b → a.1.length < b.1.length ∨ a.1.length = b.1.length ∧ a.2 ≤ b.2) ∧ (¬ ltS a b → b.1.length < a.1.length ∨ b.1.length = a.1.length ∧ b.2 ≤ a.2) := by
  unfold ltS sgnS orP cmpP
  constructor
  · intro h
    by_cases h1 : (a.1.length : Int) < b.1.length
    · left; omega
    · rw [if_neg h1] at h
      by_cases h2 : (b.1.length : Int) < a.1.length
      · rw [if_pos h2, if_pos (by decide)] at h; omega
      · rw [if_neg h2, if_neg (by decide)] at h
        right
        refine ⟨by omega, ?_⟩
        by_cases h3 : a.2 < b.2
        · omega
        · rw [if_neg h3] at h
          by_cases h4 : b.2 < a.2
          · rw [if_pos h4, if_pos (by decide)] at h; omega
          · omega
  · intro h
    by_cases h1 : (b.1.length : Int) < a.1.length
    · left; omega
    · rw [if_neg h1] at h
      by_cases h2 : (a.1.length : Int) < b.1.length
      · rw [if_pos h2, if_pos (by decide)] at h; exact absurd (by decide) h
      · rw [if_neg h2, if_neg (by decide)] at h
        right
        refine ⟨by omega, ?_⟩
        by_cases h3 : b.2 < a.2
        · omega
        · rw [if_neg h3] at h
          by_cases h4 : a.2 < b.2
          · rw [if_pos h4, if_pos (by decide)] at h; exact absurd (by decide) h
          · omega
def nextP (s p : Int) : Int := bitK .i64 .and (p - 1) s
def partsL : Nat → Int → Int → List Int
  | 0, _, _ => []
  | k + 1, s, p => p :: if 0 < p then partsL k s (nextP s p) else []
theorem parts_all : ((List.range 256).all fun s => (partsL 257 (s : Int) (s : Int) == ((List.range 256).reverse.filter fun p => p &&& s == p).map (fun p : Nat => (p : Int))) && ((partsL 257 (s : Int) (s : Int)).all fun p => decide (bitK .i64 .andNot (s : Int) p = ((s &&& (255 ^^^ p.toNat) : Nat) : Int)))) = true := by decide +kernel
theorem parts_of {s : Int} (hs : 0 ≤ s ∧ s < 256) : partsL 257 s s = ((List.range 256).reverse.filter fun p => p &&& s.toNat == p).map (fun p : Nat => (p : Int)) ∧ ∀ p ∈ partsL 257 s s, bitK .i64 .andNot s p = ((s.toNat &&& (255 ^^^ p.toNat) : Nat) : Int) := by
  obtain ⟨a, rfl⟩ : ∃ a : Nat, s = a := ⟨s.toNat, by omega⟩;have h := List.all_eq_true.1 parts_all a (List.mem_range.2 (by omega));rw [Bool.and_eq_true] at h;rw [Int.toNat_natCast];exact ⟨by simpa using h.1, fun p hp => by simpa using List.all_eq_true.1 h.2 p hp⟩
theorem parts_iff {s p : Int} (hs : 0 ≤ s ∧ s < 256) : p ∈ partsL 257 s s ↔ (0 ≤ p ∧ p < 256) ∧ p.toNat &&& s.toNat = p.toNat := by
  rw [(parts_of hs).1, List.mem_map]
  constructor
  · rintro ⟨q, hq, rfl⟩
    rw [List.mem_filter, List.mem_reverse, List.mem_range] at hq;rw [Int.toNat_natCast];exact ⟨⟨by omega, by omega⟩, by simpa using hq.2⟩
  · rintro ⟨⟨h0, h1⟩, h2⟩
    exact ⟨p.toNat, by rw [List.mem_filter, List.mem_reverse, List.mem_range]; exact ⟨by omega, by simpa using h2⟩, by omega⟩
theorem parts_low {s : Int} (hs : 0 ≤ s ∧ s < 256) : ∀ p ∈ partsL 257 s s, 0 ≤ p ∧ p < 256 ∧ bitK .i64 .andNot s p = ((s.toNat &&& (255 ^^^ p.toNat) : Nat) : Int) := fun p hp => by
  have h := (parts_iff hs).1 hp;exact ⟨h.1.1, h.1.2, (parts_of hs).2 p hp⟩
theorem bit_and {a b : Nat} (ha : a < 256) (hb : b < 256) : bitK .i64 .and (a : Int) (b : Int) = ((a &&& b : Nat) : Int) := by
  have h1 : a &&& b ≤ a := Nat.and_le_left;have h2 : (BitVec.ofInt 64 (a : Int) &&& BitVec.ofInt 64 (b : Int)).toNat = a &&& b := by
    rw [BitVec.toNat_and, BitVec.ofInt_natCast, BitVec.ofInt_natCast, BitVec.toNat_ofNat, BitVec.toNat_ofNat, Nat.mod_eq_of_lt (by omega), Nat.mod_eq_of_lt (by omega)]
  show IntKind.i64.wrap (((BitVec.ofInt 64 (a : Int) &&& BitVec.ofInt 64 (b : Int)).toNat : Nat) : Int) = _;rw [h2];simp only [IntKind.wrap];simp [IntKind.bits, IntKind.signed]
  omega
theorem next_lt {s p : Int} (hs : 0 ≤ s ∧ s < 256) (hp : 0 < p ∧ p < 256) : 0 ≤ nextP s p ∧ nextP s p < p := by
  obtain ⟨a, rfl⟩ : ∃ a : Nat, s = a := ⟨s.toNat, by omega⟩;obtain ⟨b, hb⟩ : ∃ b : Nat, p - 1 = b := ⟨(p - 1).toNat, by omega⟩;unfold nextP;rw [hb, bit_and (by omega) (by omega)];have : b &&& a ≤ b := Nat.and_le_left
  omega
end Go.Proofs.Ytohjpfkcahlfkaa.Sy
