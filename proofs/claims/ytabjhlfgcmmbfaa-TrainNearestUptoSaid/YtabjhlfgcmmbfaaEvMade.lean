/- What the laws make of small numbers: counts, and a train of a shop. -/
import Derived.Test.YtabjhlfgcmmbfaaEvNear
set_option linter.unusedSimpArgs false
set_option linter.unusedVariables false
namespace Go.Proofs.Ytabjhlfgcmmbfaa.Sy
open Go.RowKit
set_option maxRecDepth 100000

/-- put in its place -/
def insS (x : Int) : List Int → List Int
  | [] => [x]
  | y :: l => if y < x then y :: insS x l else x :: y :: l
theorem insS_cons (x y : Int) (l : List Int) : insS x (y :: l) = if y < x then y :: insS x l else x :: y :: l := rfl
theorem insS_len (x : Int) : ∀ l, (insS x l).length = l.length + 1
  | [] => rfl
  | y :: l => by unfold insS; split <;> simp [insS_len x l]
theorem mem_insS {x z : Int} : ∀ l, z ∈ insS x l ↔ z = x ∨ z ∈ l
  | [] => by simp [insS]
  | y :: l => by
    unfold insS; split
    · rw [List.mem_cons, mem_insS l, List.mem_cons]
      constructor
      · rintro (h | h | h)
        · exact .inr (.inl h)
        · exact .inl h
        · exact .inr (.inr h)
      · rintro (h | h | h)
        · exact .inr (.inl h)
        · exact .inl h
        · exact .inr (.inr h)
    · rw [List.mem_cons]
theorem insS_le {x : Int} : ∀ l : List Int, l.Pairwise (· ≤ ·) → (insS x l).Pairwise (· ≤ ·)
  | [], _ => by simp [insS]
  | y :: l, h => by
    have h' := List.pairwise_cons.1 h
    unfold insS; split
    · rename_i hyx
      refine List.pairwise_cons.2 ⟨fun z hz => ?_, insS_le l h'.2⟩
      rcases (mem_insS l).1 hz with rfl | hz
      · omega
      · exact h'.1 z hz
    · rename_i hyx
      refine List.pairwise_cons.2 ⟨fun z hz => ?_, h⟩
      rcases List.mem_cons.1 hz with rfl | hz
      · omega
      · have := h'.1 z hz; omega
theorem insS_lt {x : Int} (l : List Int) (h : l.Pairwise (· < ·)) (hx : x ∉ l) : (insS x l).Pairwise (· < ·) := by
  induction l with
  | nil => simp [insS]
  | cons y l ih =>
    have h' := List.pairwise_cons.1 h
    simp only [List.mem_cons, not_or] at hx
    unfold insS; split
    · rename_i hyx
      refine List.pairwise_cons.2 ⟨fun z hz => ?_, ih h'.2 hx.2⟩
      rcases (mem_insS l).1 hz with rfl | hz
      · omega
      · exact h'.1 z hz
    · rename_i hyx
      refine List.pairwise_cons.2 ⟨fun z hz => ?_, h⟩
      rcases List.mem_cons.1 hz with rfl | hz
      · omega
      · have := h'.1 z hz; omega
/-- distinct counts by numbers -/
def mdF (most : Nat) : List Int → List Int → List Int
  | [], l => l
  | z :: by_, l => if l.length < most then mdF most by_ (if z ∈ l then l else insS z l) else l
theorem mdF_sub (most : Nat) : ∀ (b l : List Int), ∀ x ∈ l, x ∈ mdF most b l
  | [], _, x, h => h
  | z :: b, l, x, h => by
    unfold mdF; split
    · refine mdF_sub most b _ x ?_
      split
      · exact h
      · exact (mem_insS l).2 (.inr h)
    · exact h
theorem mdF_wide {m m' : Nat} (hm : m ≤ m') : ∀ (b more l : List Int), ∀ x ∈ mdF m b l, x ∈ mdF m' (b ++ more) l
  | [], more, l, x, h => mdF_sub m' more l x h
  | z :: b, more, l, x, h => by
    unfold mdF at h
    rw [List.cons_append]
    unfold mdF
    split at h
    · rw [if_pos (by omega)]
      exact mdF_wide hm b more _ x h
    · exact mdF_sub m' ((z :: b) ++ more) l x h
structure MdOk (lo : Int) (most : Nat) (l : List Int) : Prop where
  ok : ∀ x ∈ l, lo ≤ x ∧ x ≤ lo + 255
  asc : l.Pairwise (· < ·)
  len : l.length ≤ most
theorem mdF_ok {lo : Int} {most : Nat} : ∀ (b l : List Int), (∀ z ∈ b, lo ≤ z ∧ z ≤ lo + 255) → MdOk lo most l → MdOk lo most (mdF most b l)
  | [], _, _, h => h
  | z :: b, l, hb, h => by
    unfold mdF; split
    · rename_i hlt
      refine mdF_ok b _ (fun z hz => hb z (by simp [hz])) ?_
      split
      · exact h
      · rename_i hz
        refine ⟨fun x hx => ?_, insS_lt l h.asc hz, by rw [insS_len]; omega⟩
        rcases (mem_insS l).1 hx with rfl | hx
        · exact hb _ (by simp)
        · exact h.ok x hx
    · exact h
def vals (c : List Int) (lo : Int) : List Int := if c.length = 0 then [lo] else c.map (lo + ·)
/-- which counts are there -/
def SeenOk (seen : List Bool) (l : List Int) : Prop := seen.length = 656 ∧ ∀ i : Nat, i < 656 → seen[i]? = some (decide ((i : Int) ∈ l))
theorem take_snoc' {α : Type} (l : List α) (i : Nat) (h : i < l.length) : l.take (i + 1) = l.take i ++ [l[i]] := by
  rw [List.take_add_one, List.getElem?_eq_getElem h]; rfl
theorem made_ins {n : Nat} {l c : List Int} {x i4 : Int} {seen : List Bool} {K : Int → List Int → List Int → List Bool → Option (List Int)} (hi4 : -1000 ≤ i4 ∧ i4 ≤ 9223372036854775806) (hl : l.length ≤ 100) : ∀ (d m i : Nat), i + d = l.length → d < m → l.take i ++ insS x (l.drop i) = insS x l →
    ev_law01_made_l3 n l x i4 c seen K m (i : Int) = K (i4 + 1) c (insS x l) (seen.set x.toNat true) := by
  have stop : ∀ i : Nat, i ≤ l.length → ((i : Int)).toNat = i ∧ ((l.length : Int)).toNat = l.length := fun i _ => ⟨Int.toNat_natCast _, Int.toNat_natCast _⟩
  have e1 : ([x] : List Int).length = 1 := rfl
  intro d
  induction d with
  | zero =>
    intro m i hi hm he
    obtain ⟨m, rfl⟩ : ∃ m', m = m' + 1 := ⟨m - 1, by omega⟩
    have hd : l.drop i = [] := List.drop_eq_nil_of_le (by omega)
    rw [ev_law01_made_l3, cond_if, if_neg (by simp; omega), chk_of (by simp; omega), chk_of (by simp; omega), Int.toNat_natCast, Int.toNat_natCast, List.take_length, hd, List.append_nil, chk_of (room_iff.2 (by simp)), chk_of (room_iff.2 (by simp; omega)), chk_of (in64_of (by omega))]
    rw [hd] at he
    rw [← he]; rfl
  | succ d ih =>
    intro m i hi hm he
    obtain ⟨m, rfl⟩ : ∃ m', m = m' + 1 := ⟨m - 1, by omega⟩
    have hlt : i < l.length := by omega
    have hd : l.drop i = l[i] :: l.drop (i + 1) := List.drop_eq_getElem_cons hlt
    rw [ev_law01_made_l3, cond_if, if_pos (decide_eq_true (by omega)), idx_nat (List.getElem?_eq_getElem hlt), cond_if]
    by_cases hx : l[i] < x
    · rw [if_pos (decide_eq_true hx), chk_of (in64_of (by omega))]
      refine ih m (i + 1) (by omega) (by omega) ?_
      rw [← he, hd, insS_cons, if_pos hx, take_snoc' l i hlt, List.append_assoc, List.singleton_append]
    · rw [if_neg (by simpa using hx), chk_of (by simp; omega), chk_of (by simp; omega), Int.toNat_natCast, Int.toNat_natCast, List.take_length, chk_of (room_iff.2 (by simp; omega)), chk_of (room_iff.2 (by simp; omega)), chk_of (in64_of (by omega))]
      have : insS x (l.drop i) = x :: l.drop i := by
        rw [hd]; show (if l[i] < x then _ else _) = _
        rw [if_neg hx]
      rw [this] at he
      rw [← he]; rfl
theorem seen_put {seen : List Bool} {l : List Int} {x : Int} (h : SeenOk seen l) (hx : 0 ≤ x ∧ x < 656) : SeenOk (seen.set x.toNat true) (insS x l) := by
  refine ⟨by rw [List.length_set]; exact h.1, fun i hi => ?_⟩
  rw [List.getElem?_set]
  by_cases hxi : x.toNat = i
  · rw [if_pos hxi, if_pos (by rw [h.1]; omega)]
    congr 1
    symm
    rw [decide_eq_true_eq, mem_insS]
    left; omega
  · rw [if_neg hxi, h.2 i hi]
    congr 1
    rw [decide_eq_decide, mem_insS]
    constructor
    · exact .inr
    · rintro (h | h)
      · omega
      · exact h
theorem made_j2 {n : Nat} {l c : List Int} {x i4 : Int} {seen : List Bool} {K : Int → List Int → List Int → List Bool → Option (List Int)} (hn : 1000 < n) (hi4 : -1000 ≤ i4 ∧ i4 ≤ 9223372036854775806) (hl : l.length ≤ 100) (hs : SeenOk seen l) (hx : 0 ≤ x ∧ x < 656) :
    ∃ seen', SeenOk seen' (if x ∈ l then l else insS x l) ∧ ev_law01_made_j2 n seen l i4 c K x = K (i4 + 1) c (if x ∈ l then l else insS x l) seen' := by
  have hg := hs.2 x.toNat (by omega)
  rw [show ((x.toNat : Nat) : Int) = x by omega] at hg
  have hb : (decide (0 ≤ x) && decide (x < 656)) = true := by simp; omega
  by_cases hxl : x ∈ l
  · rw [if_pos hxl]
    refine ⟨seen, hs, ?_⟩
    rw [ev_law01_made_j2, chk_of hb, idx_of (by omega) hg, cond_if, if_neg (by simp [hxl]), chk_of (in64_of (by omega))]
  · rw [if_neg hxl]
    refine ⟨_, seen_put hs hx, ?_⟩
    have hm := made_ins (n := n) (l := l) (c := c) (x := x) (seen := seen) (K := K) hi4 hl l.length n 0 (by omega) (by omega) (by simp)
    rw [ev_law01_made_j2, chk_of hb, idx_of (by omega) hg, cond_if, if_pos (by simp [hxl]), chk_of hb, idx_of (by omega) hg]
    exact hm
theorem ev_made {n : Nat} {c : List Int} {lo : Int} {most : Nat} (hn : c.length + 1001 < n) (hc : c.length ≤ 9223372036854775807) (h8 : ∀ z ∈ c, 0 ≤ z ∧ z ≤ 255) (hlo : 0 ≤ lo ∧ lo ≤ 400) (hm : 1 ≤ most ∧ most ≤ 50) : ev_law01_made n c lo (most : Int) = some (mdF most (vals c lo) []) := by
  have key : ∀ (d m i : Nat) (l : List Int) (seen : List Bool), i + d = c.length → 1 ≤ i → d < m → SeenOk seen l → l.length ≤ most → ev_law01_made_l0 n lo (most : Int) m (i : Int) c l seen = some (mdF most ((c.drop i).map (lo + ·)) l) := by
    intro d
    induction d with
    | zero =>
      intro m i l seen hi h1 hm' hs hl
      obtain ⟨m, rfl⟩ : ∃ m', m = m' + 1 := ⟨m - 1, by omega⟩
      rw [ev_law01_made_l0, cond_if, if_neg (by rw [beq_iff_eq]; omega), cond_if, if_neg (by simp; omega), List.drop_eq_nil_of_le (by omega)]; rfl
    | succ d ih =>
      intro m i l seen hi h1 hm' hs hl
      obtain ⟨m, rfl⟩ : ∃ m', m = m' + 1 := ⟨m - 1, by omega⟩
      have hlt : i < c.length := by omega
      have hz := h8 _ (List.getElem_mem hlt)
      rw [ev_law01_made_l0, cond_if, if_neg (by rw [beq_iff_eq]; omega), cond_if, if_pos (decide_eq_true (by omega)), cond_if, List.drop_eq_getElem_cons hlt, List.map_cons, mdF]
      by_cases hlm : l.length < most
      · rw [if_pos (decide_eq_true (by omega)), if_pos hlm, ev_law01_made_j1, cond_if, if_pos (decide_eq_true (by omega)), idx_nat (List.getElem?_eq_getElem hlt), chk_of (in64_of (by omega)), chk_of (in64_of (by omega))]
        obtain ⟨seen', hs', e⟩ := made_j2 (n := n) (l := l) (c := c) (x := lo + c[i]) (i4 := (i : Int)) (seen := seen) (K := fun i4q l5q l6q l7q => ev_law01_made_l0 n lo (most : Int) m i4q l5q l6q l7q) (by omega) (by omega) (by omega) hs (by omega)
        refine e.trans ?_
        refine ih m (i + 1) _ seen' (by omega) (by omega) (by omega) hs' ?_
        split
        · omega
        · rw [insS_len]; omega
      · rw [if_neg (by simp; omega), if_neg hlm]
  obtain ⟨q, rfl⟩ : ∃ q, n = q + 1 := ⟨n - 1, by omega⟩
  have hs0 : SeenOk (List.replicate 656 false) [] := ⟨by simp, fun i hi => by rw [List.getElem?_replicate, if_pos hi]; simp⟩
  rw [ev_law01_made, ev_law01_made_l0, cond_if, if_pos (by rfl), ev_law01_made_j1, cond_if]
  unfold vals
  by_cases h0 : c.length = 0
  · have hcn : c = [] := List.eq_nil_of_length_eq_zero h0
    subst hcn
    rw [if_neg (show ¬ decide ((0 : Int) < (([] : List Int).length : Int)) = true by decide), if_pos (show ([] : List Int).length = 0 from rfl)]
    obtain ⟨seen', hs', e⟩ := made_j2 (n := q + 1) (l := []) (c := []) (x := lo) (i4 := 0) (seen := List.replicate 656 false) (K := fun i4q l5q l6q l7q => ev_law01_made_l0 (q + 1) lo (most : Int) q i4q l5q l6q l7q) (by omega) (by omega) (by simp) hs0 (by omega)
    refine e.trans ?_
    rw [if_neg (by simp)]
    obtain ⟨q, rfl⟩ : ∃ q', q = q' + 1 := ⟨q - 1, by omega⟩
    rw [ev_law01_made_l0, cond_if, if_neg (by decide), cond_if, if_neg (by decide)]
    unfold mdF
    rw [if_pos (by simp; omega), if_neg (by simp), mdF]
  · obtain ⟨z, t, rfl⟩ : ∃ z t, c = z :: t := by
      cases c with
      | nil => exact absurd rfl h0
      | cons z t => exact ⟨z, t, rfl⟩
    have hz := h8 z (by simp)
    have hl1 : (z :: t).length = t.length + 1 := rfl
    rw [if_pos (decide_eq_true (by omega)), if_neg h0, idx_of (x := z) (by decide) rfl, chk_of (in64_of (by omega)), chk_of (in64_of (by omega))]
    obtain ⟨seen', hs', e⟩ := made_j2 (n := q + 1) (l := []) (c := z :: t) (x := lo + z) (i4 := 0) (seen := List.replicate 656 false) (K := fun i4q l5q l6q l7q => ev_law01_made_l0 (q + 1) lo (most : Int) q i4q l5q l6q l7q) (by omega) (by omega) (by simp) hs0 (by omega)
    refine e.trans ?_
    rw [if_neg (by simp)] at hs' ⊢
    rw [List.map_cons, mdF, if_pos (by simp; omega), if_neg (by simp)]
    have := key t.length q 1 (insS (lo + z) []) seen' (by omega) (by omega) (by omega) hs' (by rw [insS_len]; simp; omega)
    exact this
theorem mdF_pos {most : Nat} (hm : 1 ≤ most) {c : List Int} {lo : Int} : 1 ≤ (mdF most (vals c lo) []).length := by
  obtain ⟨z, t, e⟩ : ∃ z t, vals c lo = z :: t := by
    unfold vals
    split
    · exact ⟨_, _, rfl⟩
    · cases c with
      | nil => contradiction
      | cons z t => exact ⟨_, _, rfl⟩
  rw [e, mdF, if_pos (by simp; omega), if_neg (by simp)]
  have := mdF_sub most t (insS z []) z ((mem_insS _).2 (.inl rfl))
  exact List.length_pos_of_mem this
theorem vals_ok {c : List Int} {lo : Int} (h8 : ∀ z ∈ c, 0 ≤ z ∧ z ≤ 255) : ∀ z ∈ vals c lo, lo ≤ z ∧ z ≤ lo + 255 := by
  intro z hz
  unfold vals at hz
  split at hz
  · simp at hz; omega
  · obtain ⟨x, hx, rfl⟩ := List.mem_map.1 hz
    have := h8 x hx; omega
theorem made_ok {c : List Int} {lo : Int} {most : Nat} (h8 : ∀ z ∈ c, 0 ≤ z ∧ z ≤ 255) (hlo : 6 ≤ lo ∧ lo ≤ 30) (hm : 1 ≤ most ∧ most ≤ 12) : OkCut (mdF most (vals c lo) []) := by
  have h := mdF_ok (lo := lo) (most := most) (vals c lo) [] (vals_ok h8) ⟨by simp, .nil, by simp⟩
  have hp := mdF_pos (most := most) hm.1 (c := c) (lo := lo)
  have hl := h.len
  exact ⟨fun x hx => by have := h.ok x hx; omega, h.asc, by omega⟩
theorem insS_all {lo hi : Int} {x : Int} {l : List Int} (hx : lo ≤ x ∧ x ≤ hi) (h : ∀ z ∈ l, lo ≤ z ∧ z ≤ hi) : ∀ z ∈ insS x l, lo ≤ z ∧ z ≤ hi := fun z hz => by
  rcases (mem_insS l).1 hz with rfl | hz
  · exact hx
  · exact h z hz
/-- a number that picks -/
def numP (by_ : List Int) (j : Nat) : Int := if 0 < by_.length then by_.getD (j % by_.length) 0 else 0
theorem numP_ok {by_ : List Int} (h8 : ∀ z ∈ by_, 0 ≤ z ∧ z ≤ 255) (j : Nat) : 0 ≤ numP by_ j ∧ numP by_ j ≤ 255 := by
  unfold numP
  split
  · rename_i h
    have hlt := Nat.mod_lt j h
    rw [List.getD_eq_getElem?_getD, List.getElem?_eq_getElem hlt]
    exact h8 _ (List.getElem_mem hlt)
  · omega
def pkF (from_ by_ : List Int) (k : Nat) : Nat → List Int
  | 0 => []
  | i + 1 => insS (from_.getD ((numP by_ (2 * i + k)).toNat % from_.length) 0) (pkF from_ by_ k i)
theorem pkF_len (f b : List Int) (k : Nat) : ∀ i, (pkF f b k i).length = i
  | 0 => rfl
  | i + 1 => by rw [pkF, insS_len, pkF_len f b k i]
theorem pkF_le (f b : List Int) (k : Nat) : ∀ i, (pkF f b k i).Pairwise (· ≤ ·)
  | 0 => .nil
  | i + 1 => insS_le _ (pkF_le f b k i)
theorem pkF_mem {f b : List Int} {k : Nat} (hf : 0 < f.length) : ∀ i, ∀ x ∈ pkF f b k i, x ∈ f
  | 0, x, h => by simp [pkF] at h
  | i + 1, x, h => by
    rcases (mem_insS _).1 h with rfl | h
    · have hlt := Nat.mod_lt (numP b (2 * i + k)).toNat hf
      rw [List.getD_eq_getElem?_getD, List.getElem?_eq_getElem hlt]
      exact List.getElem_mem hlt
    · exact pkF_mem hf i x h
theorem pick_ins {n : Nat} {l l15 l16 l18 l19 l20 l21 l22 l23 : List Int} {x i4 : Int} {K : Int → List Int → List Int → List Int → List Int → List Int → List Int → List Int → List Int → List Int → Option (List Int × List Int)} (hi4 : 0 ≤ i4 ∧ i4 ≤ 1000) (hl : l.length ≤ 100) : ∀ (d m i : Nat), i + d = l.length → d < m → l.take i ++ insS x (l.drop i) = insS x l →
    ev_law01_picked_l3 n l x i4 l15 l16 l18 l19 l20 l21 l22 l23 K m (i : Int) = K (i4 + 1) l15 l16 (insS x l) l18 l19 l20 l21 l22 l23 := by
  have e1 : ([x] : List Int).length = 1 := rfl
  intro d
  induction d with
  | zero =>
    intro m i hi hm he
    obtain ⟨m, rfl⟩ : ∃ m', m = m' + 1 := ⟨m - 1, by omega⟩
    have hd : l.drop i = [] := List.drop_eq_nil_of_le (by omega)
    rw [ev_law01_picked_l3, cond_if, if_neg (by simp; omega), chk_of (by simp; omega), chk_of (by simp; omega), Int.toNat_natCast, Int.toNat_natCast, List.take_length, hd, List.append_nil, chk_of (room_iff.2 (by simp)), chk_of (room_iff.2 (by simp; omega)), chk_of (in64_of (by omega))]
    rw [hd] at he
    rw [← he]; rfl
  | succ d ih =>
    intro m i hi hm he
    obtain ⟨m, rfl⟩ : ∃ m', m = m' + 1 := ⟨m - 1, by omega⟩
    have hlt : i < l.length := by omega
    have hd : l.drop i = l[i] :: l.drop (i + 1) := List.drop_eq_getElem_cons hlt
    rw [ev_law01_picked_l3, cond_if, if_pos (decide_eq_true (by omega)), idx_nat (List.getElem?_eq_getElem hlt), cond_if]
    by_cases hx : l[i] < x
    · rw [if_pos (decide_eq_true hx), chk_of (in64_of (by omega))]
      refine ih m (i + 1) (by omega) (by omega) ?_
      rw [← he, hd, insS_cons, if_pos hx, take_snoc' l i hlt, List.append_assoc, List.singleton_append]
    · rw [if_neg (by simpa using hx), chk_of (by simp; omega), chk_of (by simp; omega), Int.toNat_natCast, Int.toNat_natCast, List.take_length, chk_of (room_iff.2 (by simp; omega)), chk_of (room_iff.2 (by simp; omega)), chk_of (in64_of (by omega))]
      have : insS x (l.drop i) = x :: l.drop i := by
        rw [hd, insS_cons, if_neg hx]
      rw [this] at he
      rw [← he]; rfl
theorem tmodN {a b : Nat} (hb : 0 < b) : Int.tmod (a : Int) (b : Int) = ((a % b : Nat) : Int) ∧ a % b < b := ⟨by rw [Int.tmod_eq_emod_of_nonneg (by omega)]; rfl, Nat.mod_lt _ hb⟩
theorem ev_pick1 {n : Nat} {f by_ l18 l19 l20 l21 l22 l23 : List Int} {k pairs : Nat} {K : Int → List Int → List Int → List Int → List Int → List Int → List Int → List Int → Option (List Int × List Int)} (hn : 1000 < n) (hf : 0 < f.length ∧ f.length ≤ 100) (h8 : ∀ z ∈ by_, 0 ≤ z ∧ z ≤ 255) (hb : by_.length ≤ 9223372036854775807) (hk : k < 2) (hp : pairs ≤ 4) :
    ev_law01_picked_l1 n (pairs : Int) (k : Int) K n 0 by_ f [] l18 l19 l20 l21 l22 l23 = if k = 0 then K 1 by_ l20 l21 (pkF f by_ 0 pairs) l23 l18 l19 else K 2 by_ l20 l21 l22 (pkF f by_ 1 pairs) l18 l19 := by
  have key : ∀ (d m i : Nat), i + d = pairs → d < m → ev_law01_picked_l1 n (pairs : Int) (k : Int) K m (i : Int) by_ f (pkF f by_ k i) l18 l19 l20 l21 l22 l23 = if k = 0 then K 1 by_ l20 l21 (pkF f by_ 0 pairs) l23 l18 l19 else K 2 by_ l20 l21 l22 (pkF f by_ 1 pairs) l18 l19 := by
    intro d
    induction d with
    | zero =>
      intro m i hi hm
      obtain ⟨m, rfl⟩ : ∃ m', m = m' + 1 := ⟨m - 1, by omega⟩
      have : i = pairs := by omega
      subst this
      rw [ev_law01_picked_l1, cond_if, if_neg (by simp), cond_if]
      by_cases h0 : k = 0
      · subst h0
        rw [if_pos (by rfl), if_pos rfl, chk_of (by decide)]; rfl
      · have : k = 1 := by omega
        subst this
        rw [if_neg (by decide), if_neg (by decide), chk_of (by decide)]; rfl
    | succ d ih =>
      intro m i hi hm
      obtain ⟨m, rfl⟩ : ∃ m', m = m' + 1 := ⟨m - 1, by omega⟩
      have hz := numP_ok h8 (2 * i + k)
      have hj2 : ∀ z, z = numP by_ (2 * i + k) → ev_law01_picked_j2 n f (pkF f by_ k i) (i : Int) by_ l18 l19 l20 l21 l22 l23 (fun i14q l15q l16q l17q l18q l19q l20q l21q l22q l23q => ev_law01_picked_l1 n (pairs : Int) (k : Int) K m i14q l15q l16q l17q l18q l19q l20q l21q l22q l23q) z = if k = 0 then K 1 by_ l20 l21 (pkF f by_ 0 pairs) l23 l18 l19 else K 2 by_ l20 l21 l22 (pkF f by_ 1 pairs) l18 l19 := by
        intro z hzz
        obtain ⟨a, rfl⟩ : ∃ a : Nat, z = (a : Int) := ⟨z.toNat, by omega⟩
        obtain ⟨e, hlt⟩ := tmodN (a := a) hf.1
        rw [ev_law01_picked_j2, chk_of (by simp only [bne_iff_ne, ne_eq]; omega), e, idx_nat (List.getElem?_eq_getElem hlt)]
        have hl := pkF_len f by_ k i
        have hins := pick_ins (n := n) (l := pkF f by_ k i) (l15 := by_) (l16 := f) (l18 := l18) (l19 := l19) (l20 := l20) (l21 := l21) (l22 := l22) (l23 := l23) (x := f[a % f.length]) (i4 := (i : Int)) (K := fun i14q l15q l16q l17q l18q l19q l20q l21q l22q l23q => ev_law01_picked_l1 n (pairs : Int) (k : Int) K m i14q l15q l16q l17q l18q l19q l20q l21q l22q l23q) (by omega) (by omega) (pkF f by_ k i).length n 0 (by omega) (by omega) (by simp)
        refine hins.trans ?_
        have e2 : insS f[a % f.length] (pkF f by_ k i) = pkF f by_ k (i + 1) := by
          rw [pkF, ← hzz, Int.toNat_natCast, List.getD_eq_getElem?_getD, List.getElem?_eq_getElem hlt]; rfl
        rw [e2]
        exact ih m (i + 1) (by omega) (by omega)
      rw [ev_law01_picked_l1, cond_if, if_pos (decide_eq_true (by omega)), cond_if]
      by_cases hb0 : 0 < by_.length
      · obtain ⟨e, hlt⟩ := tmodN (a := 2 * i + k) hb0
        have e3 : (2 : Int) * (i : Int) + (k : Int) = ((2 * i + k : Nat) : Int) := by omega
        rw [if_pos (decide_eq_true (by omega)), chk_of (in64_of (by omega)), e3, chk_of (in64_of (by omega)), chk_of (by simp only [bne_iff_ne, ne_eq]; omega), e, idx_nat (List.getElem?_eq_getElem hlt)]
        have hzz : by_[(2 * i + k) % by_.length] = numP by_ (2 * i + k) := by
          unfold numP; rw [if_pos hb0, List.getD_eq_getElem?_getD, List.getElem?_eq_getElem hlt]; rfl
        have := h8 _ (List.getElem_mem hlt)
        rw [chk_of (in64_of (by omega))]
        exact hj2 _ hzz
      · rw [if_neg (fun h => hb0 (by have := of_decide_eq_true h; omega))]
        exact hj2 0 (by unfold numP; rw [if_neg hb0])
  exact key pairs n 0 (by omega) (by omega)
theorem ev_picked {n : Nat} {W P by_ : List Int} {pairs : Nat} (hn : 1000 < n) (hW : 0 < W.length ∧ W.length ≤ 100) (hP : 0 < P.length ∧ P.length ≤ 100) (h8 : ∀ z ∈ by_, 0 ≤ z ∧ z ≤ 255) (hb : by_.length ≤ 9223372036854775807) (hp : pairs ≤ 4) : ev_law01_picked n W P by_ (pairs : Int) = some (pkF W by_ 0 pairs, pkF P by_ 1 pairs) := by
  obtain ⟨m, rfl⟩ : ∃ m, n = m + 3 := ⟨n - 3, by omega⟩
  rw [ev_law01_picked, ev_law01_picked_l0, cond_if, if_pos (by decide), chk_of (by decide), idx_of (x := W) (by decide) rfl]
  refine (ev_pick1 (k := 0) (by omega) hW h8 hb (by omega) hp).trans ?_
  rw [if_pos rfl, ev_law01_picked_l0, cond_if, if_pos (by decide), chk_of (by decide), idx_of (x := P) (by decide) rfl]
  refine (ev_pick1 (k := 1) (by omega) hP h8 hb (by omega) hp).trans ?_
  rw [if_neg (by decide), ev_law01_picked_l0, cond_if, if_neg (by decide)]
/-- what the lists of counts are -/
theorem mem_chP_iff : ∀ (k : Nat) (l : List Int), l.Pairwise (· < ·) → ∀ w, w ∈ chP k l ↔ w.length = k ∧ w.Pairwise (· ≤ ·) ∧ ∀ x ∈ w, x ∈ l := by
  intro k
  induction k with
  | zero =>
    intro l _ w
    simp only [chP, List.mem_singleton]
    constructor
    · rintro rfl; exact ⟨rfl, .nil, by simp⟩
    · rintro ⟨h, _⟩; exact List.eq_nil_of_length_eq_zero h
  | succ k ih =>
    intro l
    show _ → ∀ w, w ∈ chS (chP k) l ↔ _
    induction l with
    | nil =>
      intro _ w
      simp only [chS, List.not_mem_nil, false_iff]
      rintro ⟨h1, _, h2⟩
      cases w with
      | nil => simp at h1
      | cons x w => exact absurd (h2 x (by simp)) (by simp)
    | cons y t iht =>
      intro hl w
      have hl' := List.pairwise_cons.1 hl
      simp only [chS, List.mem_append, List.mem_map]
      rw [iht hl'.2]
      constructor
      · rintro (⟨v, hv, rfl⟩ | ⟨h1, h2, h3⟩)
        · obtain ⟨a, b, c⟩ := (ih (y :: t) hl v).1 hv
          refine ⟨by simp [a], List.pairwise_cons.2 ⟨fun z hz => ?_, b⟩, fun z hz => ?_⟩
          · rcases List.mem_cons.1 (c z hz) with rfl | h
            · omega
            · have := hl'.1 z h; omega
          · rcases List.mem_cons.1 hz with rfl | hz
            · simp
            · exact c z hz
        · exact ⟨h1, h2, fun x hx => by simp [h3 x hx]⟩
      · rintro ⟨h1, h2, h3⟩
        cases w with
        | nil => simp at h1
        | cons x w =>
          have h2' := List.pairwise_cons.1 h2
          rcases List.mem_cons.1 (h3 x (by simp)) with rfl | hx
          · exact .inl ⟨w, (ih (x :: t) hl w).2 ⟨by simpa using h1, h2'.2, fun z hz => h3 z (by simp [hz])⟩, rfl⟩
          · refine .inr ⟨h1, h2, fun z hz => ?_⟩
            have hyx := hl'.1 x hx
            rcases List.mem_cons.1 (h3 z hz) with rfl | h
            · rcases List.mem_cons.1 hz with rfl | hz
              · omega
              · have := h2'.1 z hz; omega
            · exact h
theorem nodup_chP : ∀ (k : Nat) (l : List Int), l.Pairwise (· < ·) → (chP k l).Nodup := by
  intro k
  induction k with
  | zero => intro l _; simp [chP]
  | succ k ih =>
    intro l
    show _ → (chS (chP k) l).Nodup
    induction l with
    | nil => intro _; simp [chS]
    | cons y t iht =>
      intro hl
      have hl' := List.pairwise_cons.1 hl
      simp only [chS]
      refine List.nodup_append.2 ⟨?_, iht hl'.2, ?_⟩
      · exact List.Pairwise.map _ (fun a b h e => h (List.cons.inj e).2) (ih (y :: t) hl)
      · intro a ha b hb e
        subst e
        obtain ⟨v, _, rfl⟩ := List.mem_map.1 ha
        have := ((mem_chP_iff (k + 1) t hl'.2 (y :: v)).1 hb).2.2 y (by simp)
        have := hl'.1 y this
        omega
theorem nodup_flat {α β : Type} {f : α → List β} : ∀ {l : List α}, l.Nodup → (∀ x ∈ l, (f x).Nodup) → (∀ x ∈ l, ∀ y ∈ l, x ≠ y → ∀ z ∈ f x, z ∉ f y) → (l.flatMap f).Nodup
  | [], _, _, _ => by simp
  | x :: l, h, h1, h2 => by
    have h' := List.nodup_cons.1 h
    rw [List.flatMap_cons]
    refine List.nodup_append.2 ⟨h1 x (by simp), nodup_flat h'.2 (fun y hy => h1 y (by simp [hy])) (fun a ha b hb => h2 a (by simp [ha]) b (by simp [hb])), ?_⟩
    intro a ha b hb e
    subst e
    obtain ⟨y, hy, hay⟩ := List.mem_flatMap.1 hb
    exact h2 x (by simp) y (by simp [hy]) (fun e => h'.1 (e ▸ hy)) a ha hay
theorem nodup_trP {W P : List Int} {r : Int × Int} {k : Nat} (hW : W.Pairwise (· < ·)) (hP : P.Pairwise (· < ·)) : (trP W P r k).Nodup := by
  unfold trP
  refine nodup_flat (nodup_chP k W hW) (fun w _ => ?_) (fun a _ b _ hab z hz hz2 => ?_)
  · unfold trW
    exact List.Pairwise.map _ (fun a b h e => h (Prod.mk.inj e).2) ((nodup_chP k P hP).sublist List.filter_sublist)
  · unfold trW at hz hz2
    obtain ⟨p, _, rfl⟩ := List.mem_map.1 hz
    obtain ⟨q, _, e⟩ := List.mem_map.1 hz2
    exact hab (Prod.mk.inj e).1.symm
theorem law_product {n : Nat} {l : List Int} (hn : 10 < n) (hl : l.length ≤ 4) (h : ∀ x ∈ l, 1 ≤ x ∧ x ≤ 400) : ev_law01_product n l = some (prodL l) := by
  have key : ∀ (d m i : Nat) (p : Int), i + d = l.length → d < m → 1 ≤ p ∧ p ≤ 400 ^ i → ev_law01_product_l0 n l m p (i : Int) = some (p * prodL (l.drop i)) := by
    intro d
    induction d with
    | zero =>
      intro m i p hi hm _
      obtain ⟨m, rfl⟩ : ∃ m', m = m' + 1 := ⟨m - 1, by omega⟩
      rw [ev_law01_product_l0, cond_if, if_neg (by simp; omega), List.drop_eq_nil_of_le (by omega), prodL, Int.mul_one]
    | succ d ih =>
      intro m i p hi hm hp
      obtain ⟨m, rfl⟩ : ∃ m', m = m' + 1 := ⟨m - 1, by omega⟩
      have hlt : i < l.length := by omega
      have hb := mul_bound hp (h _ (List.getElem_mem hlt))
      have h4 := pow5_le (i := i + 1) (by omega)
      have hs : (400 : Int) ^ (i + 1) = 400 ^ i * 400 := by rw [Int.pow_succ]
      rw [ev_law01_product_l0, cond_if, if_pos (decide_eq_true (by omega)), idx_nat (List.getElem?_eq_getElem hlt), chk_of (in64_of (by omega)), chk_of (in64_of (by omega))]
      refine (ih m (i + 1) _ (by omega) (by omega) (by omega)).trans ?_
      rw [List.drop_eq_getElem_cons hlt, prodL, Int.mul_assoc]
  have := key l.length n 0 1 (by omega) (by omega) (by simp)
  rw [List.drop_zero, Int.one_mul] at this
  exact this
end Go.Proofs.Ytabjhlfgcmmbfaa.Sy
