/- A strike by impulses: what the law computes is true. -/
import Derived.Test.YtgkoldcmbcbbpaaGTopPulseStrike
import Derived.Test.YtgkoldcmbcbbpaaEvMisses
import Derived.Test.YtgkoldcmbcbbpaaEvPulse
import Derived.Test.YtgkoldcmbcbbpaaEvPub
set_option linter.unusedSimpArgs false
set_option linter.unusedVariables false
namespace Go.Proofs.Ytgkoldcmbcbbpaa.Sy
open Go.RowKit
set_option maxRecDepth 100000

theorem pubStrike_ps : ev_top_pubStrike 6100 = some true := by decide +kernel
theorem pubPulse_ps : ev_top_pubPulse 6100 = some true := by decide +kernel
/-- slots one after another -/
def Slots (st : Int) (l : List (Int × Int)) : Prop := ∀ (i : Nat) (x : Int × Int), l[i]? = some x → x.1 = st + (i : Int)
theorem missF_snoc {h rack : Bool} {q : List (Int × Int)} : ∀ (l : List (Int × Int)) (st b : Int) (f : Nat → Option Int), Slots st l →
    missF h rack q (l ++ [(st + (l.length : Int), b)]) st f = afterF h rack q (st + (l.length : Int)) (fun a => a == b) (missF h rack q l st f) := by
  intro l
  induction l with
  | nil =>
    intro st b f _
    simp only [List.nil_append, missF, List.length_nil]
    rw [show (st + ((0 : Nat) : Int) - st).toNat = 0 by omega]
    rfl
  | cons x l ih =>
    intro st b f hs
    have h0 : x.1 = st := by have := hs 0 x rfl; omega
    have h1 : Slots (x.1 + 1) l := fun i y hy => by have := hs (i + 1) y (by simpa using hy); omega
    have := ih (x.1 + 1) b (afterF h rack q x.1 (fun b => b == x.2) (gapF h rack q (x.1 - st).toNat st f)) h1
    rw [List.cons_append]
    simp only [missF]
    rw [show st + ((x :: l).length : Int) = x.1 + 1 + (l.length : Int) by simp only [List.length_cons]; omega, this]
/-- all entries are the same, and one is there -/
def AllIs (f : Nat → Option Int) (p : Int) (v : Int) : Prop := (∀ k : Nat, k < 12 → ∀ u, f k = some u → u = v) ∧ f p.toNat = some v
theorem after_all {slot : Int} {hp : Int → Bool} {f : Nat → Option Int} {p v p' v' : Int} (hf : AllIs f p v) (hpr : 0 ≤ p ∧ p < 12)
    (hall : ∀ a : Int, 0 ≤ a → a < 12 → ∀ c ∈ contr false false [] slot hp (a, v), c.2 = v') (hthe : (p'.toNat, v') ∈ contr false false [] slot hp (p, v)) :
    AllIs (afterF false false [] slot hp f) p' v' := by
  have hin : ∀ c ∈ (canL (nN false) f).flatMap (contr false false [] slot hp), c.2 = v' := by
    intro c hc
    obtain ⟨x, hx, hc⟩ := List.mem_flatMap.1 hc
    obtain ⟨k, hk, h1, h2⟩ := mem_canL.1 hx
    have hk : k < 12 := hk
    have h3 := hf.1 k hk _ h1
    have : x = (x.1, v) := by rw [← h3]
    rw [this] at hc
    exact hall x.1 (by omega) (by omega) c hc
  refine ⟨fun k hk u hu => ?_, ?_⟩
  · rcases (foldC_spec _ _ k).1 u hu with h | h
    · cases h
    · exact hin _ h
  · have hmem : (p'.toNat, v') ∈ (canL (nN false) f).flatMap (contr false false [] slot hp) :=
      List.mem_flatMap.2 ⟨(p, v), mem_canL.2 ⟨p.toNat, show p.toNat < 12 by omega, hf.2, by simp only; omega⟩, hthe⟩
    obtain ⟨u, hu, hle⟩ := (foldC_spec ((canL (nN false) f).flatMap (contr false false [] slot hp)) (fun _ => none) p'.toNat).2 v' (.inr hmem)
    rcases (foldC_spec _ _ p'.toNat).1 u hu with h | h
    · cases h
    · have := hin _ h
      simp only at this
      subst this
      exact hu
theorem blP_plain {slot p : Int} : blP false [] slot p = if p = 0 then 12 else p := by
  unfold blP silP atP; rfl
theorem after_gone {slot : Int} {f : Nat → Option Int} {p v : Int} (hf : AllIs f p v) (hp : 0 ≤ p ∧ p < 12) : AllIs (afterF false false [] slot (fun a => a == 0) f) p (v + 1) := by
  refine after_all hf hp (fun a h0 h1 c hc => ?_) ?_
  · unfold contr at hc
    rw [blP_plain, if_neg (by simp only [beq_iff_eq]; split <;> omega), if_pos (by rfl)] at hc
    simp only [List.nil_append, List.mem_singleton] at hc
    rw [hc]
  · unfold contr
    rw [blP_plain, if_neg (by simp only [beq_iff_eq]; split <;> omega), if_pos (by rfl)]
    simp
theorem after_came {slot : Int} {f : Nat → Option Int} {p v : Int} (hf : AllIs f p v) (hp : 0 ≤ p ∧ p < 12) : AllIs (afterF false false [] slot (fun a => a == (if p = 0 then 12 else p)) f) ((p + 1) % 12) v := by
  refine after_all hf hp (fun a h0 h1 c hc => ?_) ?_
  · unfold contr at hc
    rw [if_neg (c := ((0 : Int) == _) = true) (by simp only [beq_iff_eq]; split <;> omega)] at hc
    rw [List.append_nil] at hc
    obtain ⟨c1, hc1⟩ : ∃ c1, c1 = (fun a : Int => a == (if p = 0 then 12 else p)) (blP false [] slot (a, v).1) := ⟨_, rfl⟩
    rw [← hc1] at hc
    cases c1 with
    | true => rw [if_pos rfl, List.mem_singleton] at hc; rw [hc]
    | false => rw [if_neg (by simp)] at hc; simp at hc
  · unfold contr
    rw [blP_plain, if_pos (by simp), if_neg (by simp only [beq_iff_eq]; split <;> omega)]
    have hpn : plN false = 12 := rfl
    simp [hpn]
theorem topPulseStrike_evx {day1 : Int} {gone2 : Bool} {gone3 : Bool} {gone4 : Bool} {gone5 : Bool} {gone6 : Bool} {gone7 : Bool} {gone8 : Bool} {gone9 : Bool} {gone10 : Bool} {gone11 : Bool} {gone12 : Bool} {gone13 : Bool} {gone14 : Bool} {gone15 : Bool} {gone16 : Bool} {gone17 : Bool} {gone18 : Bool} {gone19 : Bool} {gone20 : Bool} {gone21 : Bool} (h0 : (Lit.int .u8 day1).wf = true) (h1 : True ∧ True ∧ True ∧ True ∧ True ∧ True ∧ True ∧ True ∧ True ∧ True ∧ True ∧ True ∧ True ∧ True ∧ True ∧ True ∧ True ∧ True ∧ True ∧ True) :
    ∃ n, ev_top_TopPulseStrike n day1 gone2 gone3 gone4 gone5 gone6 gone7 gone8 gone9 gone10 gone11 gone12 gone13 gone14 gone15 gone16 gone17 gone18 gone19 gone20 gone21 = some true := by
  have w0 := wf8.1 h0
  have e1 : Int.tmod day1 60 = day1 % 60 := Int.tmod_eq_emod_of_nonneg w0.1
  obtain ⟨st, hst⟩ : ∃ st, 24 * (day1 % 60) = st := ⟨_, rfl⟩
  have rst : 0 ≤ st ∧ st ≤ 1416 ∧ st % 12 = 0 := by omega
  obtain ⟨G, hG⟩ : ∃ G, G = ([gone2, gone3, gone4, gone5, gone6, gone7, gone8, gone9, gone10, gone11, gone12, gone13, gone14, gone15, gone16, gone17, gone18, gone19, gone20, gone21] : List Bool) := ⟨_, rfl⟩
  have hGl : G.length = 20 := by rw [hG]; rfl
  -- the end
  have fin : ∀ (place lost : Int) (f heard : List (Int × Int)) (m : Nat), 0 < m → OkFs (60 * st) (60 * (st + 20)) f → adjP f = -lost → 0 ≤ lost ∧ lost ≤ 20 → 0 ≤ place ∧ place < 12 → place = (20 - lost) % 12 → heard.length = 20 → OkHd heard → Slots st heard → AllIs (missF false false [] heard st (firstF false false st)) place lost →
      ev_top_TopPulseStrike_l0 6100 day1 m place lost 20 gone2 gone3 gone4 gone5 gone6 gone7 gone8 gone9 gone10 gone11 gone12 gone13 gone14 gone15 gone16 gone17 gone18 gone19 gone20 gone21 f heard = some true := by
    intro place lost f heard m hm hF hadj hlost hplace hpl hhl hhd hsl hall
    cases m with
    | zero => omega
    | succ m =>
      have hx0 : heard[0]? = some heard[0] := List.getElem?_eq_getElem (by omega)
      have hx1 : heard[0].1 = st := by have := hsl 0 _ hx0; omega
      have hM := ev_Misses (n := 6100) (by decide) (h := false) (rack := false) (q := []) (by simp) (by decide +kernel) hhd hx0 (fun z hz => so_int z (by decide) (show z.length ≤ 12 from hz) trivial)
      rw [hx1] at hM
      obtain ⟨C, hC⟩ : ∃ C, C = canL (nN false) (missF false false [] heard st (firstF false false st)) := ⟨_, rfl⟩
      rw [← hC] at hM
      have hin : (place, lost) ∈ C := by rw [hC]; exact mem_canL.2 ⟨place.toNat, show place.toNat < 12 by omega, hall.2, by simp only; omega⟩
      have hsame : ∀ x ∈ C, x.2 = lost := fun x hx => by
        rw [hC] at hx
        obtain ⟨k, hk, h1, _⟩ := mem_canL.1 hx
        exact hall.1 k hk _ h1
      have hne : C ≠ [] := fun h => by rw [h] at hin; simp at hin
      have hmin : minE C = lost := by
        obtain ⟨⟨x, hx, e⟩, _⟩ := minE_spec C hne
        rw [← e]; exact hsame x hx
      rw [if_neg hne, hmin] at hM
      obtain ⟨P, hP⟩ : ∃ P, P = (C.filter fun x => x.2 == lost).map (·.1) := ⟨_, rfl⟩
      rw [← hP] at hM
      have hPin : place ∈ P := by
        rw [hP]; exact List.mem_map.2 ⟨(place, lost), List.mem_filter.2 ⟨hin, by simp⟩, rfl⟩
      have hPl : P.length ≤ 24 := by
        have h1 := canL_len false (missF false false [] heard st (firstF false false st))
        rw [← hC] at h1
        have h2 := List.length_filter_le (fun x : Int × Int => x.2 == lost) C
        rw [hP, List.length_map]
        have : nN false = 12 := rfl
        omega
      have e3 : Int.tmod (60 * st) 720 = (60 * st) % 720 := Int.tmod_eq_emod_of_nonneg (by omega)
      have hR := ev_Run (n := 6100) (by decide) (sh := (60 * st) % 720) (by omega) (from_ := 60 * st) (until_ := 60 * (st + 20)) (by omega) (by omega) hF
      rw [hadj] at hR
      obtain ⟨sh, hsh⟩ : ∃ sh, ((60 * st) % 720 + (60 * (st + 20) - 60 * st) + -lost) % 720 = sh := ⟨_, rfl⟩
      rw [hsh] at hR
      have key : ∀ (k m2 i : Nat) (b : Bool), i + k = P.length → k < m2 → (b = true ∨ place ∈ P.drop i) → ev_top_TopPulseStrike_l3 6100 (lost, P, 0) place day1 (sh, 0) lost m2 b (i : Int) = some true := by
        intro k
        induction k with
        | zero =>
          intro m2 i b hi hm2 hb
          cases m2 with
          | zero => omega
          | succ m2 =>
            have hb : b = true := by
              rcases hb with h | h
              · exact h
              · rw [List.drop_eq_nil_of_le (by omega)] at h; simp at h
            subst hb
            rw [ev_top_TopPulseStrike_l3, cond_if, if_neg (by simp; omega), cond_if, if_pos rfl, e1, hst]
            simp only
            rw [chk_of (in64_of (by omega)), chk_of (in64_of (by omega)), bind_of (pubRest_evp (by decide)), cond_if, if_pos (by simp; omega), chk_of (in64_of (by omega)), bind_of (pubRest_evp (by decide)), cond_if, if_pos (by rw [beq_iff_eq, Int.tmod_eq_emod_of_nonneg hlost.1]; omega), bind_of pubStrike_ps, cond_if, if_pos rfl, bind_of pubPulse_ps]
        | succ k ih =>
          intro m2 i b hi hm2 hb
          cases m2 with
          | zero => omega
          | succ m2 =>
            have hlt : i < P.length := by omega
            rw [ev_top_TopPulseStrike_l3, cond_if, if_pos (by simp; omega), cond_if]
            by_cases hbt : b = true
            · rw [if_pos hbt, chk_of (in64_of (by omega))]
              exact ih m2 (i + 1) true (by omega) (by omega) (.inl rfl)
            · rw [if_neg hbt, idx_nat (List.getElem?_eq_getElem hlt), chk_of (in64_of (by omega))]
              refine ih m2 (i + 1) _ (by omega) (by omega) ?_
              rcases hb with h | h
              · exact absurd h hbt
              · rw [List.drop_eq_getElem_cons hlt] at h
                rcases List.mem_cons.1 h with h | h
                · left; rw [h]; simp
                · exact .inr h
      rw [ev_top_TopPulseStrike_l0, cond_if, if_neg (by decide), e1, hst, chk_of (in64_of (by omega)), bind_of hM, chk_of (in64_of (by omega)), chk_of (in64_of (by omega)), chk_of (in64_of (by omega)), e3, bind_of hR, cond_if, if_neg (by simp), cond_if, if_neg (by simp), cond_if, if_neg (by simp), cond_if, if_neg (by simp), ev_top_TopPulseStrike_j2]
      exact key P.length 6100 0 false (by omega) (by omega) (.inr (by rw [List.drop_zero]; exact hPin))
  -- hour by hour
  have main : ∀ (d m k : Nat) (place lost : Int) (f heard : List (Int × Int)), k + d = 20 → d < m →
      (∀ x ∈ f, 60 * st < x.1 ∧ x.1 ≤ 60 * (st + (k : Int)) ∧ x.2 = 1) → f.Pairwise (fun a b => a.1 < b.1) → (f.length : Int) = lost → adjP f = -lost → 0 ≤ lost ∧ lost ≤ (k : Int) → 0 ≤ place ∧ place < 12 → place = ((k : Int) - lost) % 12 → heard.length = k → (∀ x ∈ heard, 0 ≤ x.2 ∧ x.2 ≤ 12) → Slots st heard → AllIs (missF false false [] heard st (firstF false false st)) place lost →
      ev_top_TopPulseStrike_l0 6100 day1 m place lost (k : Int) gone2 gone3 gone4 gone5 gone6 gone7 gone8 gone9 gone10 gone11 gone12 gone13 gone14 gone15 gone16 gone17 gone18 gone19 gone20 gone21 f heard = some true := by
    intro d
    induction d with
    | zero =>
      intro m k place lost f heard hk hm hf hfp hfl hadj hlost hplace hpl hhl hh2 hsl hall
      have : k = 20 := by omega
      subst this
      refine fin place lost f heard m (by omega) ⟨fun x hx => by have := hf x hx; omega, hfp, by omega⟩ hadj (by omega) hplace (by omega) hhl ⟨by omega, fun x hx => ?_, ?_, fun a b ha hb => ?_⟩ hsl hall
      · obtain ⟨i, hi, rfl⟩ := List.getElem_of_mem hx
        have := hsl i _ (List.getElem?_eq_getElem hi)
        exact ⟨by omega, hh2 _ hx⟩
      · rw [List.pairwise_iff_getElem]
        intro i j hi hj hij
        have := hsl i _ (List.getElem?_eq_getElem hi)
        have := hsl j _ (List.getElem?_eq_getElem hj)
        omega
      · have := hsl _ _ ha
        have := hsl _ _ hb
        omega
    | succ d ih =>
      intro m k place lost f heard hk hm hf hfp hfl hadj hlost hplace hpl hhl hh2 hsl hall
      cases m with
      | zero => omega
      | succ m =>
        have hkl : k < G.length := by omega
        have hget : ([gone2, gone3, gone4, gone5, gone6, gone7, gone8, gone9, gone10, gone11, gone12, gone13, gone14, gone15, gone16, gone17, gone18, gone19, gone20, gone21] : List Bool)[k]? = some G[k] := by rw [← hG]; exact List.getElem?_eq_getElem hkl
        have hks : ((k : Int) + 1) = ((k + 1 : Nat) : Int) := by omega
        have hsl2 : ∀ b : Int, Slots st (heard ++ [(st + (k : Int), b)]) := by
          intro b i x hx
          rcases Nat.lt_or_ge i heard.length with h | h
          · rw [List.getElem?_append_left h] at hx; exact hsl i x hx
          · rw [List.getElem?_append_right h] at hx
            obtain ⟨h1, h2⟩ := List.getElem?_eq_some_iff.1 hx
            have : i = k := by simp at h1; omega
            subst this
            have h3 : i - heard.length = 0 := by omega
            simp [h3] at h2
            rw [← h2]
        have hsn : ∀ b : Int, missF false false [] (heard ++ [(st + (k : Int), b)]) st (firstF false false st) = afterF false false [] (st + (k : Int)) (fun a => a == b) (missF false false [] heard st (firstF false false st)) := by
          intro b
          have := missF_snoc (h := false) (rack := false) (q := []) heard st b (firstF false false st) hsl
          rw [hhl] at this
          exact this
        have j1 : ∀ bl : Int, bl = (if place = 0 then 12 else place) → ev_top_TopPulseStrike_j1 6100 (k : Int) gone2 gone3 gone4 gone5 gone6 gone7 gone8 gone9 gone10 gone11 gone12 gone13 gone14 gone15 gone16 gone17 gone18 gone19 gone20 gone21 day1 f lost heard place (fun i22q i23q i24q b25q b26q b27q b28q b29q b30q b31q b32q b33q b34q b35q b36q b37q b38q b39q b40q b41q b42q b43q b44q l45q l46q => ev_top_TopPulseStrike_l0 6100 day1 m i22q i23q i24q b25q b26q b27q b28q b29q b30q b31q b32q b33q b34q b35q b36q b37q b38q b39q b40q b41q b42q b43q b44q l45q l46q) bl = some true := by
          intro bl hbl
          rw [ev_top_TopPulseStrike_j1, e1, hst, chk_of (by simp; omega), idx_nat hget, cond_if]
          by_cases hg : G[k] = true
          · rw [if_pos hg, chk_of (in64_of (by omega)), chk_of (in64_of (by omega)), chk_of (in64_of (by omega)), chk_of (room_iff.2 (by simp; omega)), chk_of (in64_of (by omega)), chk_of (in64_of (by omega)), chk_of (room_iff.2 (by simp; omega)), chk_of (in64_of (by omega)), hks]
            refine ih m (k + 1) place (lost + 1) _ _ (by omega) (by omega) (fun x hx => ?_) ?_ (by simp; omega) ?_ (by omega) hplace (by omega) (by simp; omega) (fun x hx => ?_) (hsl2 0) ?_
            · rcases List.mem_append.1 hx with h | h
              · have := hf x h; omega
              · rw [List.mem_singleton] at h; rw [h]; exact ⟨show 60 * st < 60 * (st + (k : Int) + 1) by omega, show 60 * (st + (k : Int) + 1) ≤ 60 * (st + ((k + 1 : Nat) : Int)) by omega, rfl⟩
            · rw [List.pairwise_append]
              refine ⟨hfp, List.pairwise_singleton _ _, fun a ha b hb => ?_⟩
              rw [List.mem_singleton] at hb; subst hb
              have := hf a ha; simp only; omega
            · unfold adjP at hadj ⊢
              rw [List.map_append, List.sum_append, hadj]
              simp; omega
            · rcases List.mem_append.1 hx with h | h
              · exact hh2 x h
              · rw [List.mem_singleton] at h; subst h; simp
            · rw [hsn]; exact after_gone hall hplace
          · rw [if_neg hg, chk_of (in64_of (by omega)), chk_of (in64_of (by omega)), chk_of (room_iff.2 (by simp; omega)), chk_of (in64_of (by omega)), hks, Int.tmod_eq_emod_of_nonneg (show 0 ≤ place + 1 by omega)]
            refine ih m (k + 1) ((place + 1) % 12) lost _ _ (by omega) (by omega) (fun x hx => ?_) hfp hfl hadj (by omega) (by omega) (by omega) (by simp; omega) (fun x hx => ?_) (hsl2 bl) ?_
            · have := hf x hx; omega
            · rcases List.mem_append.1 hx with h | h
              · exact hh2 x h
              · rw [List.mem_singleton] at h; subst h; simp only; rw [hbl]; split <;> omega
            · rw [hsn, hbl]; exact after_came hall hplace
        rw [ev_top_TopPulseStrike_l0, cond_if, if_pos (by simp; omega), cond_if]
        by_cases hp0 : place = 0
        · rw [if_pos (by simpa using hp0)]; exact j1 12 (by rw [if_pos hp0])
        · rw [if_neg (by simpa using hp0)]; exact j1 place (by rw [if_neg hp0])
  refine ⟨6100, ?_⟩
  have e2 : Int.tmod st 12 = 0 := by rw [Int.tmod_eq_emod_of_nonneg (by omega)]; omega
  rw [ev_top_TopPulseStrike, e1, hst, chk_of (in64_of (by omega)), chk_of (in64_of (by omega)), e2]
  refine main 20 6100 0 0 0 [] [] (by omega) (by omega) (by simp) List.Pairwise.nil (by simp) (by rfl) (by omega) (by omega) (by omega) rfl (by simp) (fun i x hx => by simp at hx) ⟨fun k _ u hu => ?_, ?_⟩
  · simp only [missF, firstF] at hu; simp at hu; omega
  · simp [missF, firstF]
end Go.Proofs.Ytgkoldcmbcbbpaa.Sy
