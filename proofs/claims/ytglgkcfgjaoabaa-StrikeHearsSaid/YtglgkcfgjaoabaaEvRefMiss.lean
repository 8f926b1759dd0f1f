/- How often a strike has missed, by the reference, in plain terms. -/
import Derived.Test.YtglgkcfgjaoabaaEvHeard
set_option linter.unusedSimpArgs false
set_option linter.unusedVariables false
namespace Go.Proofs.Ytglgkcfgjaoabaa.Sy
open Go.RowKit
set_option maxRecDepth 100000

def ov (o : Option Int) : Int := o.getD 1000000
/-- a list of costs is a function of places -/
structure Rep (N : Nat) (C : List Int) (f : Nat → Option Int) : Prop where
  len : C.length = N
  val : ∀ p, p < N → C[p]? = some (ov (f p))
def updL (C : List Int) (q : Nat) (w : Int) : List Int := C.set q (min (C[q]?.getD 0) w)
theorem rep_upd {N : Nat} {C : List Int} {f : Nat → Option Int} (h : Rep N C f) (hb : Bnd f 900000) {q : Nat} (hq : q < N) {w : Int} (hw : 0 ≤ w) : Rep N (updL C q w) (if w < 1000000 then addF f q w else f) := by
  have hl := h.len
  refine ⟨by simp [updL, hl], fun p hp => ?_⟩
  have hv := h.val p hp
  unfold updL
  rw [List.getElem?_set]
  by_cases hpq : q = p
  · subst hpq
    rw [if_pos rfl, if_pos (by omega), hv]
    simp only [Option.getD_some, Option.some.injEq]
    by_cases h1 : w < 1000000
    · rw [if_pos h1]
      unfold addF
      rw [if_pos rfl]
      unfold minO ov
      cases hf : f q with
      | none => simp only [Option.getD_none, Option.getD_some]; omega
      | some u => simp only [Option.getD_some]
    · rw [if_neg h1]
      unfold ov
      cases hf : f q with
      | none => simp only [Option.getD_none]; omega
      | some u => have := hb q u hf; simp only [Option.getD_some]; omega
  · rw [if_neg hpq, hv]
    by_cases h1 : w < 1000000
    · rw [if_pos h1]; unfold addF; rw [if_neg (fun e => hpq e.symm)]
    · rw [if_neg h1]
section
variable (h rack : Bool) (q : List (Int × Int)) (slot : Int) (hp : Int → Bool)
/-- what the first places come to -/
def preF (i : Nat) (f : Nat → Option Int) : Nat → Option Int := ((canL i f).flatMap (contr h rack q slot hp)).foldl addC fun _ => none
def stepC (C next : List Int) (i : Nat) : List Int :=
  if hp 0 = true then updL (if hp (blP h q slot i) = true then updL next (((i : Int) + 1) % plN h).toNat (C[i]?.getD 0) else next) (if rack then ((i : Int) + 1) % plN h else (i : Int)).toNat (C[i]?.getD 0 + 1)
  else if hp (blP h q slot i) = true then updL next (((i : Int) + 1) % plN h).toNat (C[i]?.getD 0) else next
end
section
variable {h rack : Bool} {q : List (Int × Int)} {slot : Int} {hp : Int → Bool}
theorem canL_succ (i : Nat) (f : Nat → Option Int) : canL (i + 1) f = canL i f ++ (match f i with | none => [] | some v => [((i : Int), v)]) := by
  unfold canL
  rw [List.range_succ, List.filterMap_append]
  congr 1
  cases hf : f i with
  | none => simp [hf]
  | some v => simp [hf]
theorem preF_succ (i : Nat) (f : Nat → Option Int) : preF h rack q slot hp (i + 1) f = match f i with | none => preF h rack q slot hp i f | some v => (contr h rack q slot hp ((i : Int), v)).foldl addC (preF h rack q slot hp i f) := by
  unfold preF
  rw [canL_succ]
  cases f i with
  | none => simp
  | some v => simp [List.flatMap_append, List.foldl_append]
theorem preF_bnd {i : Nat} {f : Nat → Option Int} {B : Int} (hf : Bnd f B) : Bnd (preF h rack q slot hp i f) (B + 1) := by
  intro p v hv
  rcases (foldC_spec _ _ p).1 v hv with h1 | h1
  · cases h1
  · obtain ⟨x, hx, hc⟩ := List.mem_flatMap.1 h1
    obtain ⟨p', _, h2, h3⟩ := mem_canL.1 hx
    have := hf p' _ h2
    unfold contr at hc
    rcases List.mem_append.1 hc with hc | hc
    · split at hc
      · simp only [List.mem_singleton, Prod.mk.injEq] at hc; omega
      · simp at hc
    · split at hc
      · simp only [List.mem_singleton, Prod.mk.injEq] at hc; omega
      · simp at hc
theorem addF_bnd {f : Nat → Option Int} {B w : Int} {p : Nat} (hf : Bnd f B) (hw : 0 ≤ w ∧ w ≤ B) : Bnd (addF f p w) B := by
  intro k v hv
  unfold addF at hv
  split at hv
  · unfold minO at hv
    cases hk : f k with
    | none => rw [hk] at hv; simp only [Option.some.injEq] at hv; omega
    | some u => rw [hk] at hv; have := hf k u hk; simp only [Option.some.injEq] at hv; omega
  · exact hf k v hv
theorem rep_step {C next : List Int} {f : Nat → Option Int} {i : Nat} {B : Int} (hi : i < nN h) (hC : Rep (nN h) C f) (hf : Bnd f B) (hB : B ≤ 800000) (hn : Rep (nN h) next (preF h rack q slot hp i f)) : Rep (nN h) (stepC h rack q slot hp C next i) (preF h rack q slot hp (i + 1) f) := by
  have hNc := nN_cast h
  have he := emod_place h ((i : Int) + 1)
  have hs : (((i : Int) + 1) % plN h).toNat < nN h := by omega
  have hm : (if rack then ((i : Int) + 1) % plN h else (i : Int)).toNat < nN h := by split <;> omega
  have hct : ∀ v : Int, contr h rack q slot hp ((i : Int), v) = (if hp (blP h q slot (i : Int)) = true then [((((i : Int) + 1) % plN h).toNat, v)] else []) ++ if hp 0 = true then [((if rack then ((i : Int) + 1) % plN h else (i : Int)).toNat, v + 1)] else [] := fun v => rfl
  generalize hmsd : (if rack then ((i : Int) + 1) % plN h else (i : Int)).toNat = ms at hm hct
  have hv := hC.val i hi
  have hg : Bnd (preF h rack q slot hp i f) 900000 := fun p v hv => by have := preF_bnd (h := h) (rack := rack) (q := q) (slot := slot) (hp := hp) (i := i) hf p v hv; omega
  have hst : stepC h rack q slot hp C next i = if hp 0 = true then updL (if hp (blP h q slot i) = true then updL next (((i : Int) + 1) % plN h).toNat (ov (f i)) else next) ms (ov (f i) + 1) else if hp (blP h q slot i) = true then updL next (((i : Int) + 1) % plN h).toNat (ov (f i)) else next := by
    unfold stepC
    rw [hv, hmsd]
    rfl
  rw [hst, preF_succ]
  cases hfi : f i with
  | none =>
    simp only
    have ho : ov none = 1000000 := rfl
    rw [ho]
    have u1 := rep_upd hn hg hs (w := 1000000) (by decide)
    rw [if_neg (by decide)] at u1
    split
    · split
      · have u2 := rep_upd u1 hg hm (w := 1000000 + 1) (by decide)
        rw [if_neg (by decide)] at u2
        exact u2
      · have u2 := rep_upd hn hg hm (w := 1000000 + 1) (by decide)
        rw [if_neg (by decide)] at u2
        exact u2
    · split
      · exact u1
      · exact hn
  | some v =>
    have hvb := hf i v hfi
    have ho : ov (some v) = v := rfl
    simp only
    rw [ho]
    rw [hct, List.foldl_append]
    have u1 := rep_upd hn hg hs (w := v) (by omega)
    rw [if_pos (by omega)] at u1
    have b1 : Bnd (addF (preF h rack q slot hp i f) (((i : Int) + 1) % plN h).toNat v) 900000 := addF_bnd hg (by omega)
    by_cases h1 : hp (blP h q slot (i : Int)) = true
    · rw [if_pos h1, if_pos h1]
      by_cases h2 : hp 0 = true
      · rw [if_pos h2, if_pos h2]
        have u2 := rep_upd u1 b1 hm (w := v + 1) (by omega)
        rw [if_pos (by omega)] at u2
        exact u2
      · rw [if_neg h2, if_neg h2]
        exact u1
    · rw [if_neg h1, if_neg h1]
      by_cases h2 : hp 0 = true
      · rw [if_pos h2, if_pos h2]
        have u2 := rep_upd hn hg hm (w := v + 1) (by omega)
        rw [if_pos (by omega)] at u2
        exact u2
      · rw [if_neg h2, if_neg h2]
        exact hn
end
theorem rep_get {N : Nat} {C : List Int} {f : Nat → Option Int} (h : Rep N C f) {p : Nat} (hp : p < N) : C[p]? = some (C[p]?.getD 0) := by rw [h.val p hp]; rfl
theorem rep_rng {N : Nat} {C : List Int} {f : Nat → Option Int} (h : Rep N C f) (hb : Bnd f 900000) {p : Nat} (hp : p < N) : 0 ≤ C[p]?.getD 0 ∧ C[p]?.getD 0 ≤ 1000000 := by
  rw [h.val p hp]
  simp only [Option.getD_some, ov]
  cases hf : f p with
  | none => simp
  | some v => have := hb p v hf; simp; omega
theorem len_get {C : List Int} {p : Nat} (hp : p < C.length) : C[p]? = some (C[p]?.getD 0) := by rw [List.getElem?_eq_getElem hp]; rfl
theorem updL_len (C : List Int) (q : Nat) (w : Int) : (updL C q w).length = C.length := by simp [updL]
/-- the places of a slot -/
theorem ev_refPlaces {n : Nat} (hn : 60 < n) {h rack : Bool} {q : List (Int × Int)} (hq : q.length ≤ 20) {slot at_ : Int} (hs : 0 ≤ slot ∧ slot ≤ 2000000) {listed : Bool} {blows : Int} {hp : Int → Bool}
    (hh : listed = false ∧ (∀ b, hp b = true) ∨ listed = true ∧ ∀ b, hp b = (blows == b)) {C : List Int} {f : Nat → Option Int} {B : Int} (hC : Rep (nN h) C f) (hf : Bnd f B) (hB : B ≤ 800000) {l : List (Int × Int)}
    {k2 : Int → Int → (List (Int × Int)) → Bool → Bool → (List Int) → (List (Int × Int)) → Option (Int × (List Int) × Bool)} {r : Int × (List Int) × Bool}
    (hk : ∀ next, Rep (nN h) next (afterF h rack q slot hp f) → k2 at_ (slot + 1) l h rack next q = some r) :
    ∀ (k m i : Nat) (next : List Int), i + k = nN h → k < m → Rep (nN h) next (preF h rack q slot hp i f) → ev_ref05_Misses_l5 n (plN h) listed blows slot at_ k2 m (i : Int) l h rack C next q = some r := by
  have hN := plNs h
  have hNc := nN_cast h
  intro k
  induction k with
  | zero =>
    intro m i next hi hm hr
    cases m with
    | zero => omega
    | succ m =>
      have : i = nN h := by omega
      subst this
      rw [ev_ref05_Misses_l5, cond_if, if_neg (by simp only [decide_eq_true_eq]; omega), chk_of (in64_of (by omega))]
      exact hk next hr
  | succ k ih =>
    intro m i next hi hm hr
    cases m with
    | zero => omega
    | succ m =>
      have hin : i < nN h := by omega
      have he := emod_place h ((i : Int) + 1)
      obtain ⟨st, hst⟩ : ∃ st : Nat, st = (((i : Int) + 1) % plN h).toNat := ⟨_, rfl⟩
      have hstc : (st : Int) = ((i : Int) + 1) % plN h := by omega
      have et : Int.tmod ((i : Int) + 1) (plN h) = (st : Int) := by rw [Int.tmod_eq_emod_of_nonneg (by omega), hstc]
      have hstl : st < nN h := by omega
      obtain ⟨ms, hms⟩ : ∃ ms : Nat, ms = (if rack then ((i : Int) + 1) % plN h else (i : Int)).toNat := ⟨_, rfl⟩
      have hmsc : (ms : Int) = if rack then ((i : Int) + 1) % plN h else (i : Int) := by rw [hms]; split <;> omega
      have hmsl : ms < nN h := by rw [hms]; split <;> omega
      have hg : Bnd (preF h rack q slot hp i f) 900000 := fun p v hv => by have := preF_bnd (h := h) (rack := rack) (q := q) (slot := slot) (hp := hp) (i := i) hf p v hv; omega
      have hf9 : Bnd f 900000 := fun p v hv => by have := hf p v hv; omega
      obtain ⟨w, hw⟩ : ∃ w, w = C[i]?.getD 0 := ⟨_, rfl⟩
      have hCw : C[i]? = some w := by rw [hw]; exact rep_get hC hin
      have hwr : 0 ≤ w ∧ w ≤ 1000000 := by rw [hw]; exact rep_rng hC hf9 hin
      have hnl := hr.len
      have hbl := blP_range (h := h) (q := q) (slot := slot) (p := (i : Int)) (by omega)
      have e1 : ((i : Int) + 1) = ((i + 1 : Nat) : Int) := by omega
      have nx : ev_ref05_Misses_l5 n (plN h) listed blows slot at_ k2 m ((i : Int) + 1) l h rack C (stepC h rack q slot hp C next i) q = some r := by
        rw [e1]
        exact ih m (i + 1) _ (by omega) (by omega) (rep_step hin hC hf hB hr)
      have hsc : stepC h rack q slot hp C next i = if hp 0 = true then updL (if hp (blP h q slot i) = true then updL next st w else next) ms (w + 1) else if hp (blP h q slot i) = true then updL next st w else next := by
        unfold stepC; rw [← hw, ← hst, ← hms]
      -- after the first one
      have g1 : ∀ next1 : List Int, next1.length = nN h → (stepC h rack q slot hp C next i = if hp 0 = true then updL next1 ms (w + 1) else next1) →
          cond (!listed) (idx next1 (ms : Int) fun x50 => chk (in64 (w + 1)) <| chk (in64 ((i : Int) + 1)) <| ev_ref05_Misses_l5 n (plN h) listed blows slot at_ k2 m ((i : Int) + 1) l h rack C (List.set next1 ((ms : Int)).toNat (min x50 (w + 1))) q)
            (cond (blows == 0) (idx next1 (ms : Int) fun x51 => chk (in64 (w + 1)) <| chk (in64 ((i : Int) + 1)) <| ev_ref05_Misses_l5 n (plN h) listed blows slot at_ k2 m ((i : Int) + 1) l h rack C (List.set next1 ((ms : Int)).toNat (min x51 (w + 1))) q)
              (chk (in64 ((i : Int) + 1)) <| ev_ref05_Misses_l5 n (plN h) listed blows slot at_ k2 m ((i : Int) + 1) l h rack C next1 q)) = some r := by
        intro next1 hl1 hsc1
        have hget := len_get (C := next1) (p := ms) (by omega)
        have up : hp 0 = true → (idx next1 (ms : Int) fun x50 => chk (in64 (w + 1)) <| chk (in64 ((i : Int) + 1)) <| ev_ref05_Misses_l5 n (plN h) listed blows slot at_ k2 m ((i : Int) + 1) l h rack C (List.set next1 ((ms : Int)).toNat (min x50 (w + 1))) q) = some r := by
          intro h0
          rw [idx_nat hget, chk_of (in64_of (by omega)), chk_of (in64_of (by omega)), Int.toNat_natCast]
          rw [hsc1, if_pos h0] at nx
          exact nx
        rw [cond_if]
        rcases hh with ⟨hl0, ha⟩ | ⟨hl0, ha⟩
        · rw [if_pos (by simp [hl0])]
          exact up (ha 0)
        · rw [if_neg (by simp [hl0]), cond_if]
          by_cases hb0 : (blows == 0) = true
          · rw [if_pos hb0]; exact up (by rw [ha]; exact hb0)
          · rw [if_neg hb0, chk_of (in64_of (by omega))]
            rw [hsc1, if_neg (by rw [ha]; exact hb0)] at nx
            exact nx
      have hj7 : hp (blP h q slot i) = true → ev_ref05_Misses_j7 n next (i : Int) (plN h) C listed (ms : Int) l h rack q blows (fun i40q l41q b42q b43q l44q l45q l46q => ev_ref05_Misses_l5 n (plN h) listed blows slot at_ k2 m i40q l41q b42q b43q l44q l45q l46q) = some r := by
        intro h1
        rw [ev_ref05_Misses_j7, et, idx_nat (len_get (C := next) (p := st) (by omega)), idx_nat hCw]
        have := g1 (updL next st w) (by rw [updL_len]; exact hnl) (by rw [hsc]; simp only [if_pos h1])
        unfold updL at this
        rw [Int.toNat_natCast]
        exact this
      have hj6 : ev_ref05_Misses_j6 n listed next (i : Int) (plN h) C l h rack q blows slot (fun i40q l41q b42q b43q l44q l45q l46q => ev_ref05_Misses_l5 n (plN h) listed blows slot at_ k2 m i40q l41q b42q b43q l44q l45q l46q) (ms : Int) = some r := by
        rw [ev_ref05_Misses_j6, cond_if]
        rcases hh with ⟨hl0, ha⟩ | ⟨hl0, ha⟩
        · rw [if_pos (by simp [hl0])]
          exact hj7 (ha _)
        · rw [if_neg (by simp [hl0]), bind_of (ev_refBlows (by omega) hq hs.1 (by omega)), cond_if]
          by_cases hb1 : (blows == blP h q slot (i : Int)) = true
          · rw [if_pos hb1]
            exact hj7 (by rw [ha]; exact hb1)
          · have h1 : ¬ hp (blP h q slot (i : Int)) = true := by rw [ha]; exact hb1
            rw [if_neg hb1, ev_ref05_Misses_j8, ev_ref05_Misses_j9]
            have hsc1 : stepC h rack q slot hp C next i = if hp 0 = true then updL next ms (w + 1) else next := by rw [hsc]; simp only [if_neg h1]
            have hget := len_get (C := next) (p := ms) (by omega)
            rw [cond_if, if_neg (by simp [hl0]), cond_if]
            by_cases hb0 : (blows == 0) = true
            · rw [if_pos hb0, idx_nat hget, idx_nat hCw, chk_of (in64_of (by omega)), chk_of (in64_of (by omega)), Int.toNat_natCast]
              rw [hsc1, if_pos (by rw [ha]; exact hb0)] at nx
              exact nx
            · rw [if_neg hb0, chk_of (in64_of (by omega))]
              rw [hsc1, if_neg (by rw [ha]; exact hb0)] at nx
              exact nx
      rw [ev_ref05_Misses_l5, cond_if, if_pos (by simp only [decide_eq_true_eq]; omega), chk_of (in64_of (by omega)), chk_of (by simp; omega), cond_if, et]
      cases hrk : rack with
      | true =>
        rw [if_pos rfl]
        have : (ms : Int) = (st : Int) := by rw [hmsc, hrk, if_pos rfl, hstc]
        rw [hrk, this] at hj6
        exact hj6
      | false =>
        rw [if_neg (by simp)]
        have : (ms : Int) = (i : Int) := by rw [hmsc, hrk]; rfl
        rw [hrk, this] at hj6
        exact hj6
end Go.Proofs.Ytglgkcfgjaoabaa.Sy
