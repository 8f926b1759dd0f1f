/- What the reference says of misses, in plain terms. -/
import Derived.Test.YtglgkcfgjaoabaaEvRefMiss
set_option linter.unusedSimpArgs false
set_option linter.unusedVariables false
namespace Go.Proofs.Ytglgkcfgjaoabaa.Sy
open Go.RowKit
set_option maxRecDepth 100000

abbrev RM := Int × (List Int) × Bool
/-- the places with a cost -/
def plS (F : Nat → Option Int) (mn : Int) : Nat → Nat → List Int
  | 0, _ => []
  | k + 1, i => (if ov (F i) = mn then [(i : Int)] else []) ++ plS F mn k (i + 1)
theorem plS_can {F : Nat → Option Int} {mn : Int} (hm : mn < 1000000) : ∀ (k i : Nat), (((List.range' i k).filterMap fun p => (F p).map fun v => ((p : Int), v)).filter fun x => x.2 == mn).map (·.1) = plS F mn k i := by
  intro k
  induction k with
  | zero => intro i; rfl
  | succ k ih =>
    intro i
    rw [List.range'_succ, List.filterMap_cons]
    simp only [plS]
    rw [← ih (i + 1)]
    cases hF : F i with
    | none =>
      simp only [Option.map_none]
      rw [if_neg (by unfold ov; simp; omega), List.nil_append]
    | some v =>
      simp only [Option.map_some, List.filter_cons]
      have : ov (some v) = v := rfl
      rw [this]
      by_cases hv : v = mn
      · rw [if_pos (by simpa using hv), if_pos hv]; rfl
      · rw [if_neg (by simpa using hv), if_neg hv]; rfl
/-- what the reference answers -/
def ansP (h : Bool) (F : Nat → Option Int) : RM := if canL (nN h) F = [] then (1000000, plS F 1000000 (nN h) 0, false) else (minE (canL (nN h) F), ((canL (nN h) F).filter fun x => x.2 == minE (canL (nN h) F)).map (·.1), true)
theorem ev_refEnd {n : Nat} (hn : 60 < n) {h : Bool} {C : List Int} {F : Nat → Option Int} (hC : Rep (nN h) C F) (hF : Bnd F 900000) : ev_ref05_Misses_l10 n (plN h) C n 1000000 0 = some (ansP h F) := by
  have hN := plNs h
  have hNc := nN_cast h
  have l11 : ∀ (mn : Int) (k m i : Nat) (acc : List Int), i + k = nN h → k < m → acc.length ≤ i → ev_ref05_Misses_l11 n (plN h) mn m (i : Int) C acc = some (mn, acc ++ plS F mn k i, decide (mn < 1000000)) := by
    intro mn k
    induction k with
    | zero =>
      intro m i acc hi hm ha
      cases m with
      | zero => omega
      | succ m => rw [ev_ref05_Misses_l11, cond_if, if_neg (by simp only [decide_eq_true_eq]; omega)]; simp [plS]
    | succ k ih =>
      intro m i acc hi hm ha
      cases m with
      | zero => omega
      | succ m =>
        have e1 : ((i : Int) + 1) = ((i + 1 : Nat) : Int) := by omega
        rw [ev_ref05_Misses_l11, cond_if, if_pos (by simp only [decide_eq_true_eq]; omega), idx_nat (hC.val i (by omega)), cond_if]
        simp only [plS]
        by_cases hv : ov (F i) = mn
        · rw [if_pos (by simpa using hv), if_pos hv, chk_of (room_iff.2 (by simp; omega)), chk_of (in64_of (by omega)), e1, ih m (i + 1) _ (by omega) (by omega) (by simp; omega), List.append_assoc]
        · rw [if_neg (by simpa using hv), if_neg hv, chk_of (in64_of (by omega)), e1, ih m (i + 1) _ (by omega) (by omega) (by omega), List.nil_append]
  have l10 : ∀ (k m i : Nat) (a : Int), i + k = nN h → k < m → a ≤ 1000000 → (∀ p, p < i → a ≤ ov (F p)) → (a = 1000000 ∨ ∃ p, p < nN h ∧ a = ov (F p)) →
      ∃ mn, ev_ref05_Misses_l10 n (plN h) C m a (i : Int) = some (mn, plS F mn (nN h) 0, decide (mn < 1000000)) ∧ mn ≤ 1000000 ∧ (∀ p, p < nN h → mn ≤ ov (F p)) ∧ (mn = 1000000 ∨ ∃ p, p < nN h ∧ mn = ov (F p)) := by
    intro k
    induction k with
    | zero =>
      intro m i a hi hm h1 h2 h3
      cases m with
      | zero => omega
      | succ m =>
        refine ⟨a, ?_, h1, fun p hp => h2 p (by omega), h3⟩
        rw [ev_ref05_Misses_l10, cond_if, if_neg (by simp only [decide_eq_true_eq]; omega)]
        have := l11 a (nN h) n 0 [] (by omega) (by omega) (by simp)
        rw [List.nil_append] at this
        exact this
    | succ k ih =>
      intro m i a hi hm h1 h2 h3
      cases m with
      | zero => omega
      | succ m =>
        have e1 : ((i : Int) + 1) = ((i + 1 : Nat) : Int) := by omega
        rw [ev_ref05_Misses_l10, cond_if, if_pos (by simp only [decide_eq_true_eq]; omega), idx_nat (hC.val i (by omega)), chk_of (in64_of (by omega)), e1]
        refine ih m (i + 1) (min a (ov (F i))) (by omega) (by omega) (by omega) (fun p hp => ?_) ?_
        · rcases Nat.lt_or_ge p i with h | h
          · have := h2 p h; omega
          · have : p = i := by omega
            subst this; omega
        · rcases Int.le_total a (ov (F i)) with h | h
          · have : min a (ov (F i)) = a := by omega
            rw [this]; exact h3
          · exact .inr ⟨i, by omega, by omega⟩
  obtain ⟨mn, g1, g2, g3, g4⟩ := l10 (nN h) n 0 1000000 (by omega) (by omega) (by decide) (fun p hp => by omega) (.inl rfl)
  refine Eq.trans g1 ?_
  unfold ansP
  by_cases hE : canL (nN h) F = []
  · rw [if_pos hE]
    have hall : ∀ p, p < nN h → F p = none := by
      intro p hp
      cases hf : F p with
      | none => rfl
      | some v =>
        have : ((p : Int), v) ∈ canL (nN h) F := mem_canL.2 ⟨p, hp, hf, rfl⟩
        rw [hE] at this; simp at this
    have hmn : mn = 1000000 := by
      rcases g4 with e | ⟨p, hp, e⟩
      · exact e
      · rw [hall p hp] at e; exact e
    rw [hmn]; rfl
  · rw [if_neg hE]
    obtain ⟨⟨x, hx, ex⟩, hmin⟩ := minE_spec _ hE
    obtain ⟨p, hp, hfp, _⟩ := mem_canL.1 hx
    have hxb := hF p _ hfp
    have hmn : mn = minE (canL (nN h) F) := by
      have h1 := g3 p hp
      rw [hfp] at h1
      have h1 : mn ≤ x.2 := h1
      rcases g4 with e | ⟨p', hp', e⟩
      · omega
      · cases hf' : F p' with
        | none => rw [hf'] at e; have : ov none = 1000000 := rfl; omega
        | some v =>
          rw [hf'] at e
          have e : mn = v := e
          have := hmin ((p' : Int), v) (mem_canL.2 ⟨p', hp', hf', rfl⟩)
          simp only at this
          omega
    have hlt : mn < 1000000 := by omega
    rw [← hmn, decide_eq_true hlt]
    have : canL (nN h) F = (List.range' 0 (nN h)).filterMap fun p => (F p).map fun v => ((p : Int), v) := by unfold canL; rw [List.range_eq_range']
    rw [this, plS_can hlt]
/-- a slot -/
theorem ev_refSlot3 {n : Nat} (hn : 60 < n) {h rack : Bool} {q : List (Int × Int)} (hq : q.length ≤ 20) {slot at_ : Int} (hs : 0 ≤ slot ∧ slot ≤ 2000000) {listed : Bool} {blows : Int} {hp : Int → Bool}
    (hh : listed = false ∧ (∀ b, hp b = true) ∨ listed = true ∧ ∀ b, hp b = (blows == b)) {C : List Int} {f : Nat → Option Int} {B : Int} (hC : Rep (nN h) C f) (hf : Bnd f B) (hB : B ≤ 800000) {l : List (Int × Int)}
    {k2 : Int → Int → (List (Int × Int)) → Bool → Bool → (List Int) → (List (Int × Int)) → Option RM} {r : RM}
    (hk : ∀ next, Rep (nN h) next (afterF h rack q slot hp f) → k2 at_ (slot + 1) l h rack next q = some r) :
    ev_ref05_Misses_j3 n (plN h) slot l h rack C q k2 at_ listed blows = some r := by
  have hN := plNs h
  have hNc := nN_cast h
  have key : ∀ (k m i : Nat) (next : List Int), i + k = nN h → k < m → next.length = nN h → (∀ p, p < i → next[p]? = some 1000000) → ev_ref05_Misses_l4 n (plN h) listed blows slot at_ k2 m (i : Int) l h rack C next q = some r := by
    intro k
    induction k with
    | zero =>
      intro m i next hi hm hl hv
      cases m with
      | zero => omega
      | succ m =>
        rw [ev_ref05_Misses_l4, cond_if, if_neg (by simp only [decide_eq_true_eq]; omega)]
        exact ev_refPlaces hn hq hs hh hC hf hB hk (nN h) n 0 next (by omega) (by omega) ⟨hl, fun p hp => by rw [hv p (by omega)]; rfl⟩
    | succ k ih =>
      intro m i next hi hm hl hv
      cases m with
      | zero => omega
      | succ m =>
        have e1 : ((i : Int) + 1) = ((i + 1 : Nat) : Int) := by omega
        rw [ev_ref05_Misses_l4, cond_if, if_pos (by simp only [decide_eq_true_eq]; omega), idx_nat (len_get (C := next) (p := i) (by omega)), chk_of (in64_of (by omega)), e1, Int.toNat_natCast]
        refine ih m (i + 1) _ (by omega) (by omega) (by simp [hl]) fun p hp => ?_
        rw [List.getElem?_set]
        by_cases hpi : i = p
        · rw [if_pos hpi, if_pos (by omega)]
        · rw [if_neg hpi]; exact hv p (by omega)
  rw [ev_ref05_Misses_j3, chk_of (by simp; omega), chk_of (room_iff.2 (by omega))]
  exact key (nN h) n 0 _ (by omega) (by omega) (by rw [List.length_replicate]; omega) (fun p hp => by omega)
/-- slot by slot -/
theorem ev_refSlots {n : Nat} (hn : 60 < n) {h rack : Bool} {q : List (Int × Int)} (hq : q.length ≤ 20) {l : List (Int × Int)} (hl : OkHd l) {xl : Int × Int} (hxl : l[l.length - 1]? = some xl) :
    ∀ (d m i : Nat) (s B : Int) (C : List Int) (f : Nat → Option Int), s + d = xl.1 + 1 → d < m → i ≤ l.length → 0 ≤ s → (∀ (j : Nat) (x : Int × Int), j < i → l[j]? = some x → x.1 < s) → (∀ x, l[i]? = some x → s ≤ x.1) → Rep (nN h) C f → Bnd f B → B + (d : Int) ≤ 800000 →
      ev_ref05_Misses_l2 n (plN h) m (i : Int) s l h rack C q = some (ansP h (missF h rack q (l.drop i) s f)) := by
  have hlen := hl.len
  have hxo := hl.ok xl (List.mem_of_getElem? hxl)
  have et : ((l.length : Int) - 1).toNat = l.length - 1 := by omega
  intro d
  induction d with
  | zero =>
    intro m i s B C f hd hm hi hs0 hb ha hC hf hB
    cases m with
    | zero => omega
    | succ m =>
      have hil : i = l.length := by
        rcases Nat.lt_or_ge i l.length with h1 | h1
        · have h2 := ha _ (List.getElem?_eq_getElem h1)
          rcases Nat.lt_or_ge i (l.length - 1) with h3 | h3
          · have h4 := List.pairwise_iff_getElem.1 hl.asc i (l.length - 1) h1 (by omega) h3
            have h5 : l[l.length - 1] = xl := by have := List.getElem?_eq_getElem (show l.length - 1 < l.length by omega); rw [hxl] at this; exact (Option.some.inj this).symm
            rw [h5] at h4; omega
          · have : i = l.length - 1 := by omega
            subst this
            have h5 : l[l.length - 1] = xl := by have := List.getElem?_eq_getElem (show l.length - 1 < l.length by omega); rw [hxl] at this; exact (Option.some.inj this).symm
            rw [h5] at h2; omega
        · omega
      subst hil
      rw [ev_ref05_Misses_l2, chk_of (in64_of (by omega)), idx_of (x := xl) (by omega) (by rw [et]; exact hxl), cond_if, if_neg (by simp only [decide_eq_true_eq]; omega), List.drop_length]
      exact ev_refEnd hn hC fun p v hv => by have := hf p v hv; omega
  | succ d ih =>
    intro m i s B C f hd hm hi hs0 hb ha hC hf hB
    cases m with
    | zero => omega
    | succ m =>
      have hil : i < l.length := by
        rcases Nat.lt_or_ge i l.length with h1 | h1
        · exact h1
        · have := hb (l.length - 1) xl (by omega) hxl; omega
      obtain ⟨x, hx⟩ : ∃ x, x = l[i] := ⟨_, rfl⟩
      have hget : l[i]? = some x := by rw [hx, List.getElem?_eq_getElem hil]
      have hxs := ha x hget
      have hdr : l.drop i = x :: l.drop (i + 1) := by rw [hx]; exact List.drop_eq_getElem_cons hil
      have e1 : ((i : Int) + 1) = ((i + 1 : Nat) : Int) := by omega
      rw [ev_ref05_Misses_l2, chk_of (in64_of (by omega)), idx_of (x := xl) (by omega) (by rw [et]; exact hxl), cond_if, if_pos (by simp only [decide_eq_true_eq]; omega), idx_nat hget, cond_if]
      by_cases heq : x.1 = s
      · rw [if_pos (by simpa using heq), chk_of (in64_of (by omega)), e1]
        refine ev_refSlot3 hn hq ⟨hs0, by omega⟩ (hp := fun b => x.2 == b) (.inr ⟨rfl, fun b => rfl⟩) hC hf (by omega) fun next hr => ?_
        have := ih m (i + 1) (s + 1) (B + 1) next _ (by omega) (by omega) (by omega) (by omega) (fun j y hj hy => by
          rcases Nat.lt_or_ge j i with h | h
          · have := hb j y h hy; omega
          · have : j = i := by omega
            subst this; rw [hget] at hy; cases hy; omega) (fun y hy => by
          obtain ⟨h1, rfl⟩ := List.getElem?_eq_some_iff.1 hy
          have := List.pairwise_iff_getElem.1 hl.asc i (i + 1) hil h1 (by omega)
          rw [← hx] at this; omega) hr (after_bnd hf) (by omega)
        refine Eq.trans this ?_
        rw [hdr]
        simp only [missF]
        rw [show (x.1 - s).toNat = 0 by omega]
        simp only [gapF]
        rw [heq]
        congr 3
        have hfun : (fun b : Int => b == x.2) = fun b => x.2 == b := by funext b; rw [Bool.eq_iff_iff, beq_iff_eq, beq_iff_eq]; exact eq_comm
        rw [hfun]
      · rw [if_neg (by simpa using heq)]
        refine ev_refSlot3 hn hq ⟨hs0, by omega⟩ (hp := fun _ => true) (.inl ⟨rfl, fun b => rfl⟩) hC hf (by omega) fun next hr => ?_
        have := ih m i (s + 1) (B + 1) next _ (by omega) (by omega) (by omega) (by omega) (fun j y hj hy => by have := hb j y hj hy; omega) (fun y hy => by rw [hget] at hy; cases hy; omega) hr (after_bnd hf) (by omega)
        refine Eq.trans this ?_
        rw [hdr]
        simp only [missF]
        rw [show (x.1 - s).toNat = (x.1 - (s + 1)).toNat + 1 by omega]
        simp only [gapF]
/-- what the reference answers -/
theorem ev_refMisses {n : Nat} (hn : 3000 < n) {h rack : Bool} {q : List (Int × Int)} (hq : q.length ≤ 20) {l : List (Int × Int)} (hl : OkHd l) {x0 : Int × Int} (hx0 : l[0]? = some x0) :
    ev_ref05_Misses n h rack q l = some (ansP h (missF h rack q l x0.1 (firstF h rack x0.1))) := by
  have hN := plNs h
  have hNc := nN_cast h
  have hlen := hl.len
  have hx0' : x0 = l[0]'(by omega) := by rw [List.getElem?_eq_getElem (by omega)] at hx0; exact (Option.some.inj hx0).symm
  have ho0 := (hl.ok x0 (List.mem_of_getElem? hx0)).1
  have hxl : l[l.length - 1]? = some l[l.length - 1] := List.getElem?_eq_getElem (by omega)
  have hsp := hl.span _ _ hx0 hxl
  have hge : x0.1 ≤ l[l.length - 1].1 := by
    rcases Nat.lt_or_ge 0 (l.length - 1) with h1 | h1
    · have := List.pairwise_iff_getElem.1 hl.asc 0 (l.length - 1) (by omega) (by omega) h1
      rw [← hx0'] at this; omega
    · have : l.length - 1 = 0 := by omega
      simp only [this]
      rw [← hx0']; exact Int.le_refl _
  have j1 : ∀ C : List Int, Rep (nN h) C (firstF h rack x0.1) → ev_ref05_Misses_j1 n (plN h) l h rack C q = some (ansP h (missF h rack q l x0.1 (firstF h rack x0.1))) := by
    intro C hC
    rw [ev_ref05_Misses_j1, idx_of (x := x0) (by decide) hx0]
    have := ev_refSlots (n := n) (rack := rack) (q := q) (by omega) hq hl hxl (l[l.length - 1].1 + 1 - x0.1).toNat n 0 x0.1 0 C _ (by omega) (by omega) (by omega) (by omega) (fun j x hj => by omega) (fun x hx => by rw [hx0] at hx; cases hx; exact Int.le_refl _) hC (firstF_bnd h rack x0.1) (by omega)
    rw [List.drop_zero] at this
    exact this
  have hrl : (List.replicate (plN h).toNat (0 : Int)).length = nN h := by rw [List.length_replicate]; omega
  rw [ev_ref05_Misses, bind_of ev_refN, chk_of (by simp; omega), chk_of (room_iff.2 (by omega)), cond_if]
  cases hr : rack with
  | false =>
    rw [hr] at j1
    rw [if_neg (by simp)]
    refine j1 _ ⟨hrl, fun p hp => ?_⟩
    rw [List.getElem?_replicate, if_pos (by omega)]
    rfl
  | true =>
    rw [hr] at j1
    rw [if_pos rfl]
    have hm := emod_place h x0.1
    have e0 : Int.tmod x0.1 (plN h) = x0.1 % plN h := Int.tmod_eq_emod_of_nonneg ho0.1
    have key : ∀ (k m i : Nat) (C : List Int), i + k = nN h → k < m → C.length = nN h → (∀ p, p < i → C[p]? = some (ov (firstF h true x0.1 p))) → (∀ p, i ≤ p → p < nN h → C[p]? = some 0) → ev_ref05_Misses_l0 n (plN h) m (i : Int) l h true C q = some (ansP h (missF h true q l x0.1 (firstF h true x0.1))) := by
      intro k
      induction k with
      | zero =>
        intro m i C hi hm hl1 hv hz
        cases m with
        | zero => omega
        | succ m =>
          rw [ev_ref05_Misses_l0, cond_if, if_neg (by simp only [decide_eq_true_eq]; omega)]
          exact j1 C ⟨hl1, fun p hp => hv p (by omega)⟩
      | succ k ih =>
        intro m i C hi hm hl1 hv hz
        cases m with
        | zero => omega
        | succ m =>
          have e1 : ((i : Int) + 1) = ((i + 1 : Nat) : Int) := by omega
          rw [ev_ref05_Misses_l0, cond_if, if_pos (by simp only [decide_eq_true_eq]; omega), idx_of (x := x0) (by decide) hx0, chk_of (by simp; omega), e0, cond_if]
          by_cases hp : (i : Int) = x0.1 % plN h
          · rw [if_neg (by simpa using hp), chk_of (in64_of (by omega)), e1]
            refine ih m (i + 1) C (by omega) (by omega) hl1 (fun p hp' => ?_) (fun p h1 h2 => hz p (by omega) h2)
            rcases Nat.lt_or_ge p i with h | h
            · exact hv p h
            · have : p = i := by omega
              subst this
              rw [hz p (Nat.le_refl _) (by omega)]
              unfold firstF
              rw [if_neg (by simp [hp])]; rfl
          · rw [if_pos (by simpa using hp), idx_nat (hz i (Nat.le_refl _) (by omega)), chk_of (in64_of (by omega)), e1, Int.toNat_natCast]
            refine ih m (i + 1) _ (by omega) (by omega) (by simp [hl1]) (fun p hp' => ?_) (fun p h1 h2 => ?_)
            · rw [List.getElem?_set]
              by_cases hpi : i = p
              · subst hpi
                rw [if_pos rfl, if_pos (by omega)]
                unfold firstF
                rw [if_pos (by simp [hp])]; rfl
              · rw [if_neg hpi]; exact hv p (by omega)
            · rw [List.getElem?_set, if_neg (by omega)]; exact hz p (by omega) h2
    exact key (nN h) n 0 _ (by omega) (by omega) hrl (fun p hp => by omega) (fun p _ hp => by rw [List.getElem?_replicate, if_pos (by omega)])
end Go.Proofs.Ytglgkcfgjaoabaa.Sy
