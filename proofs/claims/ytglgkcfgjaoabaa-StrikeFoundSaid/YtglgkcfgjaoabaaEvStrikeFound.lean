/- Found: what the law computes is true. -/
import Derived.Test.YtglgkcfgjaoabaaGStrikeFound
import Derived.Test.YtglgkcfgjaoabaaEvWheel
import Derived.Test.YtglgkcfgjaoabaaEvHeard
set_option linter.unusedSimpArgs false
set_option linter.unusedVariables false
namespace Go.Proofs.Ytglgkcfgjaoabaa.Sy
open Go.RowKit
set_option maxRecDepth 100000

def nxtS : List (Int × Int) → Int → Int
  | [], s => s
  | x :: l, _ => nxtS l (x.1 + 1)
theorem nxtS_snoc : ∀ (l : List (Int × Int)) (s : Int) (x : Int × Int), nxtS (l ++ [x]) s = x.1 + 1 := by
  intro l
  induction l with
  | nil => intro s x; rfl
  | cons y l ih => intro s x; exact ih _ x
theorem nxtS_le : ∀ (l : List (Int × Int)) (s b : Int), (∀ x ∈ l, x.1 < b) → s ≤ b → nxtS l s ≤ b := by
  intro l
  induction l with
  | nil => intro s b _ h; exact h
  | cons y l ih => intro s b h1 h2; exact ih _ b (fun x hx => h1 x (by simp [hx])) (by have := h1 y (by simp); omega)
section
variable {h : Bool} {q : List (Int × Int)}
theorem missF_app : ∀ (l r : List (Int × Int)) (s : Int) (f : Nat → Option Int), missF h false q (l ++ r) s f = missF h false q r (nxtS l s) (missF h false q l s f) := by
  intro l
  induction l with
  | nil => intro r s f; rfl
  | cons x l ih => intro r s f; simp only [List.cons_append, missF, nxtS, ih]
theorem gapF_last : ∀ (k : Nat) (s : Int) (f : Nat → Option Int), gapF h false q (k + 1) s f = afterF h false q (s + k) (fun _ => true) (gapF h false q k s f) := by
  intro k
  induction k with
  | zero => intro s f; simp [gapF]
  | succ k ih =>
    intro s f
    have := ih (s + 1) (afterF h false q s (fun _ => true) f)
    rw [gapF, this]
    simp only [gapF]
    congr 1
    omega
theorem reach_struck {slot p u : Int} {hp : Int → Bool} {f : Nat → Option Int} (hpp : 0 ≤ p ∧ p < plN h) (hf : f p.toNat = some u) (hh : hp (blP h q slot p) = true) : ∃ u', afterF h false q slot hp f ((p + 1) % plN h).toNat = some u' ∧ u' ≤ u := by
  have hNc := nN_cast h
  refine (foldC_spec _ _ _).2 u (.inr (List.mem_flatMap.2 ⟨(p, u), mem_canL.2 ⟨p.toNat, by omega, hf, by simp only; omega⟩, ?_⟩))
  unfold contr
  rw [if_pos hh]
  simp
theorem reach_missed {slot p u : Int} {hp : Int → Bool} {f : Nat → Option Int} (hpp : 0 ≤ p ∧ p < plN h) (hf : f p.toNat = some u) (hh : hp 0 = true) : ∃ u', afterF h false q slot hp f p.toNat = some u' ∧ u' ≤ u + 1 := by
  have hNc := nN_cast h
  refine (foldC_spec _ _ _).2 (u + 1) (.inr (List.mem_flatMap.2 ⟨(p, u), mem_canL.2 ⟨p.toNat, by omega, hf, by simp only; omega⟩, ?_⟩))
  unfold contr
  rw [if_pos hh]
  simp
def Low (h : Bool) (f : Nat → Option Int) (b : Int) : Prop := ∀ p v, p < nN h → f p = some v → b ≤ v
theorem low_after {slot b : Int} {hp : Int → Bool} {f : Nat → Option Int} (hf : Low h f b) : Low h (afterF h false q slot hp f) b := by
  intro p v _ hv
  rcases (foldC_spec _ _ p).1 v hv with h1 | h1
  · cases h1
  · obtain ⟨x, hx, hc⟩ := List.mem_flatMap.1 h1
    obtain ⟨p', hp', h2, h3⟩ := mem_canL.1 hx
    have := hf p' _ hp' h2
    unfold contr at hc
    rcases List.mem_append.1 hc with hc | hc
    · split at hc
      · simp only [List.mem_singleton, Prod.mk.injEq] at hc; omega
      · simp at hc
    · split at hc
      · simp only [List.mem_singleton, Prod.mk.injEq] at hc; omega
      · simp at hc
theorem low_gap {b : Int} : ∀ (k : Nat) (s : Int) (f : Nat → Option Int), Low h f b → Low h (gapF h false q k s f) b := by
  intro k
  induction k with
  | zero => intro s f hf; exact hf
  | succ k ih => intro s f hf; exact ih _ _ (low_after hf)
theorem low_miss {b : Int} : ∀ (l : List (Int × Int)) (s : Int) (f : Nat → Option Int), Low h f b → Low h (missF h false q l s f) b := by
  intro l
  induction l with
  | nil => intro s f hf; exact hf
  | cons x l ih => intro s f hf; exact ih _ _ (low_after (low_gap _ _ _ hf))
/-- nothing is known at first -/
def anyF : Nat → Option Int := fun _ => some 0
theorem firstF_any (s : Int) : firstF h false s = anyF := by funext p; simp [firstF, anyF]
/-- what can be before a slot -/
def curF (h : Bool) (q : List (Int × Int)) : List (Int × Int) → Int → Nat → Option Int
  | [], _ => anyF
  | x :: l, s => gapF h false q (s - nxtS (x :: l) x.1).toNat (nxtS (x :: l) x.1) (missF h false q (x :: l) x.1 anyF)
/-- what can be after what was heard -/
def endF (h : Bool) (q : List (Int × Int)) (l : List (Int × Int)) : Nat → Option Int := match l with
  | [] => anyF
  | x :: _ => missF h false q l x.1 anyF
theorem cur_hear (l : List (Int × Int)) (s b : Int) : endF h q (l ++ [(s, b)]) = afterF h false q s (fun a => a == b) (curF h q l s) := by
  cases l with
  | nil =>
    show missF h false q [(s, b)] s anyF = _
    simp only [missF, curF]
    rw [show (s - s).toNat = 0 by omega]
    rfl
  | cons x l =>
    show missF h false q ((x :: l) ++ [(s, b)]) x.1 anyF = _
    rw [missF_app]
    simp only [missF, curF]
theorem cur_new (l : List (Int × Int)) (s b : Int) : curF h q (l ++ [(s, b)]) (s + 1) = endF h q (l ++ [(s, b)]) := by
  cases l with
  | nil =>
    show gapF h false q (s + 1 - nxtS [(s, b)] s).toNat _ _ = _
    simp only [nxtS]
    rw [show (s + 1 - (s + 1)).toNat = 0 by omega]
    rfl
  | cons x l =>
    show gapF h false q (s + 1 - nxtS ((x :: l) ++ [(s, b)]) x.1).toNat _ _ = _
    rw [nxtS_snoc]
    rw [show (s + 1 - ((s, b).1 + 1)).toNat = 0 by simp only; omega]
    rfl
theorem cur_gap {l : List (Int × Int)} {s : Int} (hl : l ≠ []) (hs : ∀ x ∈ l, x.1 < s) : curF h q l (s + 1) = afterF h false q s (fun _ => true) (curF h q l s) := by
  cases l with
  | nil => exact absurd rfl hl
  | cons x l =>
    have hle := nxtS_le (x :: l) x.1 s hs (by have := hs x (by simp); omega)
    simp only [curF]
    obtain ⟨N, hN⟩ : ∃ N, N = nxtS (x :: l) x.1 := ⟨_, rfl⟩
    rw [← hN] at hle ⊢
    rw [show (s + 1 - N).toNat = (s - N).toNat + 1 by omega, gapF_last]
    congr 1
    omega
end
/-- what was found by some of what was heard -/
structure Fnd (h : Bool) (q : List (Int × Int)) (a : Int) (i : Nat) (heard : List (Int × Int)) (ends many : List Int) : Prop where
  le : ends.length = heard.length
  lm : many.length = heard.length
  li : heard.length ≤ i
  asc : heard.Pairwise fun a b => a.1 < b.1
  ok : ∀ x ∈ heard, (a ≤ x.1 ∧ x.1 < a + i) ∧ (0 ≤ x.2 ∧ x.2 ≤ 12)
  fnd : ∀ k, k < heard.length → ∃ e m u, ends[k]? = some e ∧ many[k]? = some m ∧ (0 ≤ e ∧ e < plN h) ∧ endF h q (heard.take (k + 1)) e.toNat = some u ∧ u ≤ m
theorem Fnd.keep {h : Bool} {q : List (Int × Int)} {a : Int} {i : Nat} {heard : List (Int × Int)} {ends many : List Int} (F : Fnd h q a i heard ends many) : Fnd h q a (i + 1) heard ends many :=
  ⟨F.le, F.lm, by have := F.li; omega, F.asc, fun x hx => by have := F.ok x hx; exact ⟨by omega, this.2⟩, F.fnd⟩
theorem Fnd.snoc {h : Bool} {q : List (Int × Int)} {a : Int} {i : Nat} {heard : List (Int × Int)} {ends many : List Int} (F : Fnd h q a i heard ends many) {b e m u : Int} (hb : 0 ≤ b ∧ b ≤ 12) (he : 0 ≤ e ∧ e < plN h) (hu : endF h q (heard ++ [(a + i, b)]) e.toNat = some u) (hm : u ≤ m) :
    Fnd h q a (i + 1) (heard ++ [(a + (i : Int), b)]) (ends ++ [e]) (many ++ [m]) := by
  have hle := F.le
  have hlm := F.lm
  refine ⟨by simp [hle], by simp [hlm], by have := F.li; simp; omega, ?_, fun x hx => ?_, fun k hk => ?_⟩
  · rw [List.pairwise_append]
    refine ⟨F.asc, List.pairwise_singleton _ _, fun x hx y hy => ?_⟩
    rw [List.mem_singleton] at hy; subst hy
    have := (F.ok x hx).1
    show x.1 < a + (i : Int)
    omega
  · rcases List.mem_append.1 hx with hx | hx
    · have := F.ok x hx; exact ⟨by omega, this.2⟩
    · rw [List.mem_singleton] at hx; subst hx
      exact ⟨by simp only; omega, hb⟩
  · rcases Nat.lt_or_ge k heard.length with h1 | h1
    · obtain ⟨e', m', u', g1, g2, g3, g4, g5⟩ := F.fnd k h1
      refine ⟨e', m', u', ?_, ?_, g3, ?_, g5⟩
      · rw [List.getElem?_append_left (by omega)]; exact g1
      · rw [List.getElem?_append_left (by omega)]; exact g2
      · rw [List.take_append_of_le_length (by omega)]; exact g4
    · have hke : k = heard.length := by simp at hk; omega
      subst hke
      refine ⟨e, m, u, ?_, ?_, he, ?_, hm⟩
      · rw [List.getElem?_append_right (by omega), hle]; simp
      · rw [List.getElem?_append_right (by omega), hlm]; simp
      · rw [List.take_of_length_le (by simp)]; exact hu
theorem strikeFound_evx {w1 : Bool} {w2 : Int} {w3 : Int} {at_4 : Int} {at_5 : Int} {by_6 : List Int} (h0 : True ∧ (Lit.int .u8 w2).wf = true ∧ (Lit.int .u8 w3).wf = true) (h1 : (Lit.int .u8 at_4).wf = true ∧ (Lit.int .u8 at_5).wf = true) (h2 : (by_6.length ≤ maxLen ∧ ∀ el5 ∈ by_6, (Lit.int .u8 el5).wf = true)) :
    ∃ n, ev_law05_StrikeFound n w1 w2 w3 at_4 at_5 by_6 = some true := by
  have ha := wf8.1 h0.2.1
  have hb := wf8.1 h0.2.2
  simp only [wf8] at h1
  obtain ⟨r4, r5⟩ := h1
  have hby : ∀ x ∈ by_6, 0 ≤ x ∧ x ≤ 255 := fun x hx => wf8.1 (h2.2 x hx)
  have hN := plNs w1
  have hNc := nN_cast w1
  have hl := quietP_len w1 w2 w3
  have hc := quietP_chk w1 (a := w2) (b := w3)
  have e5 : Int.tmod at_5 (plN w1) = at_5 % plN w1 := Int.tmod_eq_emod_of_nonneg r5.1
  obtain ⟨q, hq⟩ : ∃ q, q = quietP w1 w2 w3 := ⟨_, rfl⟩
  have hr := ev_rules (n := 3100) (h := w1) ha hb
  have hsi := fun (s : Int) (hs : 0 ≤ s) => ev_silent (n := 3100) (h := w1) (slot := s) ha hb hs
  rw [← hq] at hr hl hc
  simp only [← hq] at hsi
  have hck : ev_strike_Check 3100 w1 false q = some 0 := by rw [ev_CheckP (by decide) (by omega), hc]
  -- what is found
  have chkd : ∀ (heard : List (Int × Int)) (ends many : List Int) (i : Nat), i ≤ 60 → Fnd w1 q at_4 i heard ends many → 0 < heard.length →
      ∀ (d m k : Nat) (fewer : Int), k + d = heard.length + 1 → 1 ≤ k → d < m → (fewer = -1 ∨ ∃ k', 1 ≤ k' ∧ k' < k ∧ fewer = minE (canL (nN w1) (endF w1 q (heard.take k')))) →
        ev_law05_StrikeFound_l7 3100 (heard.length : Int) w1 w2 w3 heard many (plN w1) ends m fewer (k : Int) = some true := by
    intro heard ends many i hi F hh d
    have hle := F.le
    have hlm := F.lm
    have hli := F.li
    obtain ⟨x0, t, hxt⟩ : ∃ x0 t, heard = x0 :: t := by
      cases heard with
      | nil => simp at hh
      | cons x t => exact ⟨x, t, rfl⟩
    have hendT : ∀ k, 1 ≤ k → endF w1 q (heard.take k) = missF w1 false q (heard.take k) x0.1 anyF := by
      intro k hk
      obtain ⟨k, rfl⟩ : ∃ k', k = k' + 1 := ⟨k - 1, by omega⟩
      rw [hxt, List.take_succ_cons]
      rfl
    have hmem : ∀ k, 1 ≤ k → k ≤ heard.length → ∃ e m u, ends[k - 1]? = some e ∧ many[k - 1]? = some m ∧ (0 ≤ e ∧ e < plN w1) ∧ (e, u) ∈ canL (nN w1) (endF w1 q (heard.take k)) ∧ u ≤ m := by
      intro k h1 h2
      obtain ⟨e, m, u, g1, g2, g3, g4, g5⟩ := F.fnd (k - 1) (by omega)
      rw [show k - 1 + 1 = k by omega] at g4
      exact ⟨e, m, u, g1, g2, g3, mem_canL.2 ⟨e.toNat, by omega, g4, by simp only; omega⟩, g5⟩
    have hgrow : ∀ k' k, 1 ≤ k' → k' ≤ k → k ≤ heard.length → minE (canL (nN w1) (endF w1 q (heard.take k'))) ≤ minE (canL (nN w1) (endF w1 q (heard.take k))) := by
      intro k' k h1 h2 h3
      obtain ⟨_, _, u, _, _, _, hu, _⟩ := hmem k (by omega) h3
      obtain ⟨⟨x, hx, ex⟩, _⟩ := minE_spec (canL (nN w1) (endF w1 q (heard.take k))) (fun h => by rw [h] at hu; simp at hu)
      obtain ⟨_, _, u', _, _, _, hu', _⟩ := hmem k' h1 (by omega)
      obtain ⟨_, hmin⟩ := minE_spec (canL (nN w1) (endF w1 q (heard.take k'))) (fun h => by rw [h] at hu'; simp at hu')
      have hlow : Low w1 (endF w1 q (heard.take k')) (minE (canL (nN w1) (endF w1 q (heard.take k')))) := fun p v hp hv => hmin ((p : Int), v) (mem_canL.2 ⟨p, hp, hv, rfl⟩)
      have hsplit : heard.take k = heard.take k' ++ (heard.take k).drop k' := by
        have := (List.take_append_drop k' (heard.take k)).symm
        rw [List.take_take, Nat.min_eq_left h2] at this
        exact this
      have hlow2 : Low w1 (endF w1 q (heard.take k)) (minE (canL (nN w1) (endF w1 q (heard.take k')))) := by
        rw [hendT k (by omega), hsplit, missF_app, ← hendT k' h1]
        exact low_miss _ _ _ hlow
      obtain ⟨p, hp, hv, _⟩ := mem_canL.1 hx
      have := hlow2 p x.2 hp hv
      omega
    induction d with
    | zero =>
      intro m k fewer hk h1 hm hf
      cases m with
      | zero => omega
      | succ m => rw [ev_law05_StrikeFound_l7, cond_if, if_neg (by simp only [decide_eq_true_eq]; omega), bind_of known_ev]
    | succ d ih =>
      intro m k fewer hk h1 hm hf
      cases m with
      | zero => omega
      | succ m =>
        have e1 : ((k : Int) + 1) = ((k + 1 : Nat) : Int) := by omega
        obtain ⟨E, hE⟩ : ∃ E, E = canL (nN w1) (endF w1 q (heard.take k)) := ⟨_, rfl⟩
        obtain ⟨e, mm, u, g1, g2, g3, g4, g5⟩ := hmem k h1 (by omega)
        rw [← hE] at g4
        have hne : E ≠ [] := fun h => by rw [h] at g4; simp at g4
        obtain ⟨⟨xm, hxm, exm⟩, hmin⟩ := minE_spec E hne
        have humin := hmin _ g4
        simp only at humin
        -- the answer
        have htl : (heard.take k).length = k := by rw [List.length_take]; omega
        have htk0 : (heard.take k)[0]? = some x0 := by
          obtain ⟨k', rfl⟩ : ∃ k', k = k' + 1 := ⟨k - 1, by omega⟩
          rw [hxt, List.take_succ_cons]; rfl
        have hokT : OkHd (heard.take k) := by
          refine ⟨by omega, fun x hx => ?_, F.asc.sublist (List.take_sublist _ _), fun a b ha' hb' => ?_⟩
          · have := F.ok x (List.mem_of_mem_take hx)
            exact ⟨by omega, this.2⟩
          · have := (F.ok a (List.mem_of_mem_take (List.mem_of_getElem? ha'))).1
            have := (F.ok b (List.mem_of_mem_take (List.mem_of_getElem? hb'))).1
            omega
        have h24 : nN w1 ≤ 24 := by omega
        have hM := ev_Misses (n := 3100) (by decide) (h := w1) (rack := false) (q := q) (by omega) hck hokT htk0 (fun z hz => so_int z (by decide) (by omega) trivial)
        rw [firstF_any, ← hendT k h1, ← hE, if_neg hne] at hM
        obtain ⟨P, hP⟩ : ∃ P, P = (E.filter fun x => x.2 == minE E).map (·.1) := ⟨_, rfl⟩
        rw [← hP] at hM
        have hPasc : P.Pairwise (· < ·) := by
          rw [hP, List.pairwise_map, hE]
          exact (canL_sorted _ _).sublist List.filter_sublist
        have hPin : ∀ z ∈ P, 0 ≤ z ∧ z < plN w1 := by
          intro z hz
          rw [hP] at hz
          obtain ⟨x, hx, rfl⟩ := List.mem_map.1 hz
          have hx := (List.mem_filter.1 hx).1
          rw [hE] at hx
          obtain ⟨p, hp, _, h3⟩ := mem_canL.1 hx
          omega
        have hPl : P.length ≤ 24 := by
          have h3 := canL_len w1 (endF w1 q (heard.take k))
          rw [← hE] at h3
          have h4 := List.length_filter_le (fun x : Int × Int => x.2 == minE E) E
          rw [hP, List.length_map]; omega
        have hP0 : 0 < P.length := by
          have : xm.1 ∈ P := by rw [hP]; exact List.mem_map.2 ⟨xm, List.mem_filter.2 ⟨hxm, by simp [exm]⟩, rfl⟩
          exact List.length_pos_of_mem this
        have hfound : minE E < mm ∨ e ∈ P := by
          by_cases hlt : minE E < mm
          · exact .inl hlt
          · have : u = minE E := by omega
            right; rw [hP]
            exact List.mem_map.2 ⟨(e, u), List.mem_filter.2 ⟨g4, by simp [this]⟩, rfl⟩
        have ek : ((k : Int) - 1) = ((k - 1 : Nat) : Int) := by omega
        have l10 : ∀ (d' m' j : Nat) (b : Bool), j + d' = P.length → d' < m' → (b = true ∨ e ∈ P.drop j) → ev_law05_StrikeFound_l10 3100 (minE E, P, 0) (plN w1) (k : Int) ends (fun i36q i37q => ev_law05_StrikeFound_l7 3100 (heard.length : Int) w1 w2 w3 heard many (plN w1) ends m i36q i37q) m' b (j : Int) = some true := by
          intro d'
          induction d' with
          | zero =>
            intro m' j b hj hm' hb'
            cases m' with
            | zero => omega
            | succ m' =>
              have hbt : b = true := by
                rcases hb' with h | h
                · exact h
                · rw [List.drop_eq_nil_of_le (by omega)] at h; simp at h
              rw [ev_law05_StrikeFound_l10, cond_if, if_neg (by simp only [decide_eq_true_eq]; omega), cond_if, if_neg (by simp [hbt]), cond_if, if_neg (by rw [beq_iff_eq]; simp only; omega), chk_of (in64_of (by omega)), e1]
              exact ih m (k + 1) (minE E) (by omega) (by omega) (by omega) (.inr ⟨k, h1, by omega, by rw [hE]⟩)
          | succ d' ihd =>
            intro m' j b hj hm' hb'
            cases m' with
            | zero => omega
            | succ m' =>
              have hlt : j < P.length := by omega
              have hz := hPin _ (List.getElem_mem hlt)
              have ej : ((j : Int) + 1) = ((j + 1 : Nat) : Int) := by omega
              have j11 : ∀ b' : Bool, (b' = true ∨ e ∈ P.drop (j + 1)) → ev_law05_StrikeFound_j11 3100 (minE E, P, 0) (j : Int) (plN w1) (fun b43q i44q => ev_law05_StrikeFound_l10 3100 (minE E, P, 0) (plN w1) (k : Int) ends (fun i36q i37q => ev_law05_StrikeFound_l7 3100 (heard.length : Int) w1 w2 w3 heard many (plN w1) ends m i36q i37q) m' b43q i44q) b' = some true := by
                intro b' hb2
                have nx := ihd m' (j + 1) b' (by omega) (by omega) hb2
                rw [ev_law05_StrikeFound_j11]
                simp only
                rw [idx_nat (List.getElem?_eq_getElem hlt), cond_if, if_neg (by simp only [decide_eq_true_eq]; omega), cond_if, if_neg (by simp only [decide_eq_true_eq]; omega), cond_if]
                by_cases hj0 : j = 0
                · rw [if_neg (by simp only [decide_eq_true_eq]; omega), chk_of (in64_of (by omega)), ej]
                  exact nx
                · have hlt2 : j - 1 < P.length := by omega
                  have hasc := List.pairwise_iff_getElem.1 hPasc (j - 1) j hlt2 hlt (by omega)
                  rw [if_pos (decide_eq_true (by omega)), chk_of (in64_of (by omega)), show ((j : Int) - 1) = ((j - 1 : Nat) : Int) by omega, idx_nat (List.getElem?_eq_getElem hlt2), cond_if, if_neg (by simp only [decide_eq_true_eq]; omega), chk_of (in64_of (by omega)), ej]
                  exact nx
              rw [ev_law05_StrikeFound_l10, cond_if, if_pos (by simp only [decide_eq_true_eq]; omega), cond_if]
              by_cases hbt : b = true
              · rw [if_pos hbt]
                exact j11 true (.inl rfl)
              · rw [if_neg hbt]
                simp only
                rw [idx_nat (List.getElem?_eq_getElem hlt), chk_of (in64_of (by omega)), ek, idx_nat g1]
                refine j11 _ ?_
                rcases hb' with h | h
                · exact absurd h hbt
                · rw [List.drop_eq_getElem_cons hlt] at h
                  rcases List.mem_cons.1 h with h | h
                  · left; rw [h]; simp
                  · exact .inr h
        have j8 : ev_law05_StrikeFound_j8 3100 w1 w2 w3 (k : Int) heard many fewer (plN w1) ends (fun i36q i37q => ev_law05_StrikeFound_l7 3100 (heard.length : Int) w1 w2 w3 heard many (plN w1) ends m i36q i37q) = some true := by
          have hfew : fewer ≤ minE E := by
            rcases hf with h | ⟨k', k1, k2, h⟩
            · obtain ⟨p, hp, hv, _⟩ := mem_canL.1 (by rw [hE] at hxm; exact hxm)
              have hb3 : Bnd (endF w1 q (heard.take k)) (10000000) ∨ True := .inr trivial
              have hlow : Low w1 (endF w1 q (heard.take k)) 0 := by
                rw [hendT k h1]
                exact low_miss _ _ _ (fun p v _ hv => by cases hv; exact Int.le_refl _)
              have := hlow p xm.2 hp hv
              omega
            · rw [h, hE]; exact hgrow k' k k1 (by omega) (by omega)
          rw [ev_law05_StrikeFound_j8, bind_of hr]
          simp only
          have et : List.drop ((0 : Int)).toNat (List.take ((k : Int)).toNat heard) = heard.take k := by rw [Int.toNat_natCast]; rfl
          rw [chk_of (by simp; omega), et, bind_of (ev_heard (by omega)), bind_of hM, cond_if, if_neg (by simp), chk_of (in64_of (by omega)), ek, idx_nat g2, cond_if, if_neg (by simp only [decide_eq_true_eq]; omega), cond_if, if_neg (by simp only [decide_eq_true_eq]; omega), ev_law05_StrikeFound_j9, chk_of (in64_of (by omega)), ek, idx_nat g2]
          exact l10 P.length 3100 0 _ (by omega) (by omega) (by
            rcases hfound with h | h
            · exact .inl (decide_eq_true h)
            · exact .inr (by rw [List.drop_zero]; exact h))
        rw [ev_law05_StrikeFound_l7, cond_if, if_pos (by simp only [decide_eq_true_eq]; omega), cond_if]
        split
        · rw [chk_of (in64_of (by omega)), chk_of (in64_of (by rw [Int.tdiv_eq_ediv_of_nonneg (by omega)]; omega)), cond_if]
          split
          · rw [chk_of (in64_of (by omega)), e1]
            exact ih m (k + 1) fewer (by omega) (by omega) (by omega) (by
              rcases hf with h | ⟨k', k1, k2, h⟩
              · exact .inl h
              · exact .inr ⟨k', k1, by omega, h⟩)
          · exact j8
        · exact j8
  have j6 : ∀ (heard : List (Int × Int)) (ends many : List Int) (i : Nat), i ≤ 60 → Fnd w1 q at_4 i heard ends many → ev_law05_StrikeFound_j6 3100 (plN w1) (heard.length : Int) w1 w2 w3 heard ends many = some true := by
    intro heard ends many i hi F
    rw [ev_law05_StrikeFound_j6, cond_if]
    by_cases h0 : heard.length = 0
    · have hE : ev_strike_Misses 3100 w1 false q [] = some (0, [], 7) := by
        have := ev_MissesE (n := 3100) (by decide) (h := w1) (rack := false) (q := q) (by omega) (l := []) (by rw [if_pos hc]; decide)
        rw [if_pos hc] at this
        exact this
      rw [if_pos (by simp [h0]), bind_of hr]
      simp only
      rw [bind_of hE, cond_if, if_pos (by rfl), bind_of known_ev]
    · rw [if_neg (by rw [beq_iff_eq]; omega)]
      have := F.li
      exact chkd heard ends many i hi F (by omega) heard.length 3100 1 (-1) (by omega) (by omega) (by omega) (.inl rfl)
  -- slot by slot
  have main : ∀ (d m i : Nat) (place missed : Int) (heard : List (Int × Int)) (ends many : List Int), i + d = 60 → d < m → (0 ≤ place ∧ place < plN w1) → 0 ≤ missed → missed ≤ (i : Int) → Fnd w1 q at_4 i heard ends many → (∃ u, curF w1 q heard (at_4 + (i : Int)) place.toNat = some u ∧ u ≤ missed) →
      ev_law05_StrikeFound_l0 3100 at_4 (plN w1) m place missed (heard.length : Int) (i : Int) by_6 w1 w2 w3 heard ends many = some true := by
    intro d
    induction d with
    | zero =>
      intro m i place missed heard ends many hi hm hp hm0 hm1 F hcur
      cases m with
      | zero => omega
      | succ m =>
        rw [ev_law05_StrikeFound_l0, cond_if, if_neg (by simp only [decide_eq_true_eq]; omega)]
        exact j6 heard ends many i (by omega) F
    | succ d ih =>
      intro m i place missed heard ends many hi hm hp hm0 hm1 F hcur
      cases m with
      | zero => omega
      | succ m =>
        rw [ev_law05_StrikeFound_l0, cond_if, if_pos (by simp only [decide_eq_true_eq]; omega), cond_if]
        by_cases hlt : i < by_6.length
        · rw [if_pos (by simp only [decide_eq_true_eq]; omega)]
          obtain ⟨y, hy, y0, y1⟩ := ev_byteOf (n := 3100) hby (i := (i : Int)) (by omega)
          obtain ⟨s, hs⟩ : ∃ s, s = at_4 + (i : Int) := ⟨_, rfl⟩
          obtain ⟨u, hu, hum⟩ := hcur
          rw [← hs] at hu
          have e1 : ((i : Int) + 1) = ((i + 1 : Nat) : Int) := by omega
          have es : s + 1 = at_4 + ((i + 1 : Nat) : Int) := by omega
          have t3 : Int.tmod y 3 = y % 3 := Int.tmod_eq_emod_of_nonneg y0
          have t8 : Int.tmod y 8 = y % 8 := Int.tmod_eq_emod_of_nonneg y0
          have hle := F.le
          have hlm := F.lm
          have hli := F.li
          have hslt : ∀ x ∈ heard, x.1 < s := fun x hx => by have := (F.ok x hx).1; omega
          have hbr := blP_range (h := w1) (q := q) (slot := s) hp
          -- what is noted
          have j4 : ∀ (place' missed' b : Int), (0 ≤ place' ∧ place' < plN w1) → 0 ≤ missed' → missed' ≤ (i : Int) + 1 → (0 ≤ b ∧ b ≤ 12) → (∃ u', afterF w1 false q s (fun a => a == b) (curF w1 q heard s) place'.toNat = some u' ∧ u' ≤ missed') → (heard ≠ [] → ¬ 0 < y % 3 → ∃ u', afterF w1 false q s (fun _ => true) (curF w1 q heard s) place'.toNat = some u' ∧ u' ≤ missed') →
              ev_law05_StrikeFound_j4 3100 y at_4 (i : Int) heard ends many by_6 w1 w2 w3 (heard.length : Int) (fun i8q i9q i10q i11q l12q b13q i14q i15q l16q l17q l18q => ev_law05_StrikeFound_l0 3100 at_4 (plN w1) m i8q i9q i10q i11q l12q b13q i14q i15q l16q l17q l18q) place' missed' b = some true := by
            intro place' missed' b g1 g2 g3 g4 g5 g6
            rw [ev_law05_StrikeFound_j4, t3, cond_if]
            by_cases h3 : 0 < y % 3
            · obtain ⟨u', hu', hum'⟩ := g5
              have hend := cur_hear (h := w1) (q := q) heard s b
              rw [if_pos (decide_eq_true h3), chk_of (in64_of (by omega)), chk_of (room_iff.2 (by simp; omega)), chk_of (room_iff.2 (by simp; omega)), chk_of (room_iff.2 (by simp; omega)), chk_of (in64_of (by omega)), e1]
              refine ih m (i + 1) place' missed' _ _ _ (by omega) (by omega) g1 g2 (by omega) (F.snoc g4 g1 (u := u') (by rw [← hs, hend]; exact hu') hum') ⟨u', ?_, hum'⟩
              rw [← es, ← hs, cur_new, hend]
              exact hu'
            · rw [if_neg (by simpa using h3), chk_of (in64_of (by omega)), e1]
              refine ih m (i + 1) place' missed' heard ends many (by omega) (by omega) g1 g2 (by omega) F.keep ?_
              rw [← es]
              by_cases hne : heard = []
              · subst hne
                exact ⟨0, rfl, g2⟩
              · rw [cur_gap hne hslt]
                exact g6 hne h3
          -- whether it misses
          have j2 : ev_law05_StrikeFound_j2 3100 y heard missed at_4 (i : Int) ends many by_6 w1 w2 w3 (heard.length : Int) place (plN w1) (fun i8q i9q i10q i11q l12q b13q i14q i15q l16q l17q l18q => ev_law05_StrikeFound_l0 3100 at_4 (plN w1) m i8q i9q i10q i11q l12q b13q i14q i15q l16q l17q l18q) (blP w1 q s place) = some true := by
            rw [ev_law05_StrikeFound_j2, t8, cond_if]
            by_cases h8 : y % 8 = 1
            · rw [if_pos (by simpa using h8), cond_if]
              have hmiss : ∀ hp' : Int → Bool, hp' 0 = true → ∃ u', afterF w1 false q s hp' (curF w1 q heard s) place.toNat = some u' ∧ u' ≤ missed + 1 := by
                intro hp' hz
                obtain ⟨u', h1', h2'⟩ := reach_missed (q := q) (slot := s) (hp := hp') hp hu hz
                exact ⟨u', h1', by omega⟩
              have j3 : ev_law05_StrikeFound_j3 3100 missed y at_4 (i : Int) heard ends many by_6 w1 w2 w3 (heard.length : Int) place (fun i8q i9q i10q i11q l12q b13q i14q i15q l16q l17q l18q => ev_law05_StrikeFound_l0 3100 at_4 (plN w1) m i8q i9q i10q i11q l12q b13q i14q i15q l16q l17q l18q) = some true := by
                rw [ev_law05_StrikeFound_j3, chk_of (in64_of (by omega))]
                exact j4 place (missed + 1) 0 hp (by omega) (by omega) (by decide) (hmiss _ rfl) (fun _ _ => hmiss _ rfl)
              by_cases hl0 : 0 < heard.length
              · rw [if_pos (decide_eq_true (by omega))]
                exact j3
              · rw [if_neg (by simp only [decide_eq_true_eq]; omega), t3, cond_if]
                by_cases h3 : 0 < y % 3
                · rw [if_pos (decide_eq_true h3)]
                  exact j3
                · have hnil : heard = [] := List.length_eq_zero_iff.1 (by omega)
                  rw [if_neg (by simpa using h3), ev_law05_StrikeFound_j5, ev_law05_StrikeFound_j4, t3, cond_if, if_neg (by simpa using h3), chk_of (in64_of (by omega)), e1]
                  refine ih m (i + 1) place missed heard ends many (by omega) (by omega) hp hm0 (by omega) F.keep ?_
                  subst hnil
                  exact ⟨0, rfl, hm0⟩
            · have et : Int.tmod (place + 1) (plN w1) = (place + 1) % plN w1 := Int.tmod_eq_emod_of_nonneg (by omega)
              rw [if_neg (by simpa using h8), chk_of (in64_of (by omega)), chk_of (by simp; omega), et]
              have hst : ∀ hp' : Int → Bool, hp' (blP w1 q s place) = true → ∃ u', afterF w1 false q s hp' (curF w1 q heard s) ((place + 1) % plN w1).toNat = some u' ∧ u' ≤ missed := by
                intro hp' hz
                obtain ⟨u', h1', h2'⟩ := reach_struck (q := q) (slot := s) (hp := hp') hp hu hz
                exact ⟨u', h1', by omega⟩
              exact j4 _ missed _ (emod_place w1 _) hm0 (by omega) hbr (hst _ (beq_self_eq_true _)) (fun _ _ => hst _ rfl)
          rw [ev_law05_StrikeFound_j1, bind_of hy, bind_of (ev_wblows (by omega)), chk_of (in64_of (by omega)), ← hs, bind_of (hsi s (by omega))]
          have hbv : blP w1 q s place = if silP q (plN w1) s = true then 0 else atP w1 place := rfl
          cases hsv : silP q (plN w1) s with
          | true =>
            rw [hsv, if_pos rfl] at hbv
            rw [hbv] at j2
            exact j2
          | false =>
            rw [hsv, if_neg (by simp)] at hbv
            rw [hbv] at j2
            exact j2
        · rw [if_neg (by simp only [decide_eq_true_eq]; omega)]
          exact j6 heard ends many i (by omega) F
  refine ⟨3100, ?_⟩
  rw [ev_law05_StrikeFound, bind_of ev_wplaces, chk_of (in64_of (by omega)), chk_of (in64_of (by omega)), chk_of (by simp; omega), e5]
  exact main 60 3100 0 (at_5 % plN w1) 0 [] [] [] (by omega) (by omega) (emod_place w1 _) (Int.le_refl _) (by omega) ⟨rfl, rfl, by simp, List.Pairwise.nil, by simp, fun k hk => by simp at hk⟩ ⟨0, rfl, Int.le_refl _⟩
end Go.Proofs.Ytglgkcfgjaoabaa.Sy
