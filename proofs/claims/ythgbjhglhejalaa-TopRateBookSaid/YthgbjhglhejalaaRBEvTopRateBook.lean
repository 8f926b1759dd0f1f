/- A clock that is regulated visit by visit gains, at the end, from noon to noon, what its rate says, and that lies within the limit. -/
import Derived.Test.YthgbjhglhejalaaRBEvRateD
import Derived.Test.YthgbjhglhejalaaRBEvBook
import Derived.Test.YthgbjhglhejalaaRBGTopRateBook
set_option linter.unusedSimpArgs false
set_option linter.unusedVariables false
namespace Go.Proofs.Ythgbjhglhejalaa.Sy
open Go.RowKit
set_option maxRecDepth 100000
theorem pubBook_rb (k : Nat) : ev_top_pubBook (k + 2200) = some true := by kernel_rfl
theorem byteR_ev {n : Nat} {l : List Int} (hb : ∀ x ∈ l, 0 ≤ x ∧ x ≤ 255) {i : Int} (hi : 0 ≤ i) : ∃ r, ev_top_pubByte n l i = some r ∧ (0 ≤ r ∧ r ≤ 255) := by
  rw [ev_top_pubByte, cond_if]
  by_cases h : l.length = 0
  · rw [if_pos (by simp [h])]; exact ⟨0, rfl, by decide, by decide⟩
  · have hp : (0 : Int) < l.length := by omega
    have h0 := Int.emod_nonneg i (show (l.length : Int) ≠ 0 by omega);have h1 := Int.emod_lt_of_pos i hp;have hlt : (i % (l.length : Int)).toNat < l.length := by omega
    have hm := hb _ (List.getElem_mem hlt);have hm1 := hm.1;have hm2 := hm.2;rw [if_neg (by simp; exact fun e => h (by simp [e])), chk_of (by simp; exact fun e => h (by simp [e])), Int.tmod_eq_emod_of_nonneg hi, idx_of h0 (List.getElem?_eq_getElem hlt), chk_of (in64_of (by omega))];exact ⟨_, rfl, hm⟩
def xG (X L s : Int) : Int := (X + 86400 * (86400000 * s + L * s)) % 3732480000000
theorem noonsR_len : ∀ (k : Nat) (d : Int) (l : List BE) (c : CK), (noonsP k d l c).length = k := by
  intro k
  induction k with
  | zero => intro d l c; rfl
  | succ k ih => intro d l c; simp [noonsP, ih]
theorem noonsG_tail {X L : Int} : ∀ (k : Nat) (d s : Int) (j : Nat), j < k → (noonsP k (d + 1) [] (xG X L s, L, d * 86400, false))[j]? = some (xG X L (s + 1 + j) / 86400) := by
  intro k
  induction k with
  | zero => intro d s j hj; omega
  | succ k ih =>
    intro d s j hj;have e : runP [] (xG X L s, L, d * 86400, false) ((d + 1) * 86400) = ((xG X L (s + 1), L, (d + 1) * 86400, false), []) := by
      have e1 : (d + 1) * 86400 - d * 86400 = 86400 := by omega
      have e2 : L * (s + 1) = L * s + L := by rw [Int.mul_add, Int.mul_one]
      simp only [runP, toP, Bool.false_eq_true, if_false, e1, xG, e2, Prod.mk.injEq, and_true]
      omega
    simp only [noonsP, e]
    cases j with
    | zero => simp
    | succ j =>
      simp only [List.getElem?_cons_succ];rw [ih (d + 1) (s + 1) j (by omega)]
      congr 3
      omega
theorem runP_all {t : Int} : ∀ (l : List BE) (c : CK), (∀ x ∈ l, x.1 ≤ t) → runP l c t = (toP (l.foldl doP c) t, [])
  | [], c, _ => rfl
  | x :: l, c, h => by rw [runP, if_pos (h x (List.mem_cons_self ..)), runP_all l _ (fun y hy => h y (List.mem_cons_of_mem _ hy)), List.foldl_cons]
theorem fold_goes : ∀ (l : List BE) (c : CK), (∀ x ∈ l, x.2.1 = 2) → c.2.2.2 = false → (l.foldl doP c).2.2.2 = false
  | [], c, _, h => h
  | x :: l, c, hk, h => by
    rw [List.foldl_cons];refine fold_goes l _ (fun y hy => hk y (List.mem_cons_of_mem _ hy)) ?_;have := hk x (List.mem_cons_self ..);simp only [doP, this]
    simpa [toP_stands] using h
structure RB (l : List BE) (day truth : Int) : Prop where
  ok : OkEs l
  k2 : ∀ x ∈ l, x.2.1 = 2
  tm : ∀ x ∈ l, x.1 ≤ day * 86400
  last : ∃ l', l = l' ++ [(day * 86400, 2, truth)]
  len : (l.length : Int) ≤ day + 1
theorem noons_rb {l : List BE} {day truth : Int} (h : RB l day truth) : ∃ X, 0 ≤ X ∧ X < 3732480000000 ∧ ∀ j : Nat, j < 10 → (noonsP 10 (day + 1) l (0, 0, 0, false))[j]? = some (xG X truth j / 86400) := by
  obtain ⟨l', hl⟩ := h.last;have hr : runP l (0, 0, 0, false) ((day + 1) * 86400) = (toP (l.foldl doP (0, 0, 0, false)) ((day + 1) * 86400), []) := runP_all l _ fun x hx => by have := h.tm x hx; omega
  have hs := fold_goes l (0, 0, 0, false) h.k2 rfl;have hrate : (l.foldl doP (0, 0, 0, false)).2.1 = truth := by rw [hl, List.foldl_append]; rfl
  generalize hc : l.foldl doP (0, 0, 0, false) = c at *
  have ht : toP c ((day + 1) * 86400) = ((c.1 + ((day + 1) * 86400 - c.2.2.1) * (86400000 + c.2.1)) % 3732480000000, truth, (day + 1) * 86400, false) := by
    unfold toP;rw [if_neg (by simp [hs]), hrate]
  refine ⟨(c.1 + ((day + 1) * 86400 - c.2.2.1) * (86400000 + c.2.1)) % 3732480000000, by omega, by omega, ?_⟩
  generalize (c.1 + ((day + 1) * 86400 - c.2.2.1) * (86400000 + c.2.1)) % 3732480000000 = X at *
  intro j hj;have hX : 0 ≤ X ∧ X < 3732480000000 := by
    have := congrArg (fun q => q.1) ht;simp only [toP] at this;rw [if_neg (by simp [hs])] at this;simp only at this
    omega
  rw [show (10 : Nat) = 9 + 1 from rfl, noonsP, hr, ht];have e0 : xG X truth 0 = X := by unfold xG; simp; omega
  cases j with
  | zero => simp [e0]
  | succ j =>
    simp only [List.getElem?_cons_succ];have := noonsG_tail (X := X) (L := truth) 9 (day + 1) 0 j (by omega);rw [e0] at this;rw [this]
    congr 3
    omega
theorem gain_rb {X L s : Int} (hL : -300 ≤ L ∧ L ≤ 300) : (xG X L (s + 1) / 86400 - xG X L s / 86400 + 21600000) % 43200000 - 21600000 = L := by
  have e2 : L * (s + 1) = L * s + L := by rw [Int.mul_add, Int.mul_one]
  unfold xG;rw [e2]
  generalize L * s = P
  omega
theorem restR_ev {n : Nat} {a : Int} (h : -1000000000000 ≤ a ∧ a ≤ 1000000000000) : ev_top_pubRest n a 43200000 = some (a % 43200000) := by
  have h1 := Int.tmod_lt_of_pos a (show (0 : Int) < 43200000 by decide);have h2 : -43200000 < Int.tmod a 43200000 := by
    have := Int.tmod_lt_of_pos (-a) (show (0 : Int) < 43200000 by decide);rw [Int.neg_tmod] at this; omega
  have h3 : a % 43200000 = (Int.tmod a 43200000 + 43200000) % 43200000 := by
    rw [Int.add_emod_right, show Int.tmod a 43200000 = a - 43200000 * Int.tdiv a 43200000 by have := Int.mul_tdiv_add_tmod a 43200000; omega, Int.sub_mul_emod_self_left]
  rw [ev_top_pubRest, chk_of (by decide), chk_of (in64_of (by omega)), chk_of (by decide), Int.tmod_eq_emod_of_nonneg (by omega), ← h3]
theorem l4_rb {n : Nat} {ys : List Int} {X L : Int} (hX : 0 ≤ X ∧ X < 3732480000000) (hy : ∀ j : Nat, j < 10 → ys[j]? = some (xG X L j / 86400)) (hL : -5 ≤ L ∧ L ≤ 5) (h1 : ev_top_pubRate n = some true) (h2 : ev_top_pubBook n = some true) : ∀ (k m : Nat), k ≤ 9 → k < m →
    ev_top_TopRateBook_l4 n (ys, 0) L m (10 - (k : Int)) = some true := by
  intro k
  induction k with
  | zero =>
    intro m _ hm;obtain ⟨m, rfl⟩ : ∃ q, m = q + 1 := ⟨m - 1, by omega⟩;rw [ev_top_TopRateBook_l4, decide_eq_false (by omega), cond_false, bind_of h1, cond_true, bind_of h2]
  | succ k ih =>
    intro m hk hm;obtain ⟨m, rfl⟩ : ∃ q, m = q + 1 := ⟨m - 1, by omega⟩;have e : (10 - ((k + 1 : Nat) : Int)) = ((8 - k : Nat) : Int) + 1 := by omega
    have e2 : ((8 - k : Nat) : Int) + 1 + 1 = 10 - (k : Int) := by omega
    have e3 : ((8 - k : Nat) : Int) + 1 - 1 = ((8 - k : Nat) : Int) := by omega
    have ha := hy (8 - k + 1) (by omega);have hb := hy (8 - k) (by omega);have ec : ((8 - k + 1 : Nat) : Int) = ((8 - k : Nat) : Int) + 1 := by omega
    rw [ec] at ha;have hg := gain_rb (X := X) (L := L) (s := ((8 - k : Nat) : Int)) (by omega);have hr : ∀ s : Int, 0 ≤ xG X L s / 86400 ∧ xG X L s / 86400 ≤ 43200000 := fun s => by unfold xG; omega
    have hr1 := hr (((8 - k : Nat) : Int) + 1);have hr2 := hr ((8 - k : Nat) : Int);have ei : (((8 - k : Nat) : Int) + 1).toNat = 8 - k + 1 := by omega
    have ej : ((8 - k : Nat) : Int).toNat = 8 - k := by omega
    rw [e, ev_top_TopRateBook_l4, decide_eq_true (by omega), cond_true, idx_of (by omega) (by rw [ei]; exact ha), chk_of (in64_of (by omega)), e3, idx_of (by omega) (by rw [ej]; exact hb)];rw [chk_of (in64_of (by omega)), chk_of (in64_of (by omega)), bind_of (restR_ev (by omega)), chk_of (in64_of (by omega)), hg];have c1 : (L != L) = false := by simp
    rw [c1, cond_false, decide_eq_false (by omega), cond_false, decide_eq_false (by omega), cond_false, chk_of (in64_of (by omega)), e2];exact ih m (by omega) (by omega)
theorem eff_J {α : Type} {u : Int} {a : Int × Int} {e : Int × Int × Int} (ha : a ∈ actsL) (he : effA u a = some e) (J : Int → Int → α) :
    cond (a.2 == 0) (J 4 6) (J (min ((8 : Int) * a.1) ((10 : Int) * a.1)) (max ((8 : Int) * a.1) ((10 : Int) * a.1))) = J e.1 e.2.1 := by
  unfold effA at he
  by_cases h : a.2 = -1
  · rw [if_pos h] at he;cases he;have : (a.2 == 0) = false := by rw [h]; rfl
    rw [this, cond_false]
  · rw [if_neg h] at he;have h0 : a.2 = 0 := by
      simp only [actsL, List.mem_cons, List.not_mem_nil, or_false] at ha;rcases ha with rfl | rfl | rfl | rfl | rfl | rfl | rfl | rfl <;> first | exact absurd rfl h | rfl
    have : (a.2 == 0) = true := by rw [h0]; rfl
    rw [this, cond_true]
    split at he
    · cases he; rfl
    · cases he
theorem acts_bd {a : Int × Int} (ha : a ∈ actsL) : -3 ≤ a.1 ∧ a.1 ≤ 3 := by
  simp only [actsL, List.mem_cons, List.not_mem_nil, or_false] at ha;rcases ha with rfl | rfl | rfl | rfl | rfl | rfl | rfl | rfl <;> decide
theorem ub_of {z : Int} (h : z = 0 ∨ z = 1) : ub (z == 1) = z := by rcases h with rfl | rfl <;> rfl
theorem rb_l {n : Nat} (hn0 : 2200 ≤ n) (hbk : ev_top_pubBook n = some true) {by_ : List Int} (hby : ∀ x ∈ by_, 0 ≤ x ∧ x ≤ 255) : ∀ (m v : Nat) (day : Int) (b : Bool) (slo shi truth : Int) (l : List BE), v < m → 0 ≤ day → (v : Int) + day ≤ 6 → -300 ≤ slo → slo ≤ truth → truth ≤ shi → shi ≤ 300 → fewF (ub b) slo shi = some v → RB l day truth →
    ev_top_TopRateBook_l0 n m truth (v : Int) day by_ slo shi l [b] = some true := by
  intro m
  induction m with
  | zero => intro v day b slo shi truth l h; omega
  | succ m ih =>
    intro v day b slo shi truth l hv hd0 hd hs0 hs1 hs2 hs3 hf hl;have e2 : ∀ n, ev_top_pubNut n = some (5, 1, 8, 10, 3, [(4, 6)]) := fun n => rfl
    have hok := hl.ok;rw [ev_top_TopRateBook_l0]
    cases v with
    | zero =>
      obtain ⟨_, h4, _⟩ := few_spec hf;have h5 : shi ≤ goodF slo := h4;have h6 : -5 ≤ slo ∧ shi ≤ 5 := by unfold goodF at h5; split at h5 <;> omega
      rw [decide_eq_false (by omega), cond_false, chk_of (in64_of (by omega)), bind_of (ev_Noons hok (by omega) (by decide) (by decide) (by omega) (by omega))];obtain ⟨X, x0, x1, hx⟩ := noons_rb hl;have c1 : ((0 : Int) != 0) = false := rfl;have c2 : (((noonsP (10 : Int).toNat (day + 1) l (0, 0, 0, false)).length : Int) != 10) = false := by rw [noonsR_len]; rfl
      simp only [c1, c2, cond_false];unfold ev_top_TopRateBook_j3;exact l4_rb ⟨x0, x1⟩ hx (by omega) (pubRate_ev (by omega)) hbk 9 n (by omega) (by omega)
    | succ w =>
      obtain ⟨a, ha⟩ := act_some (ub_or b) hs0 (by omega) hf;obtain ⟨hm, e, he, g0, g1, g2⟩ := act_spec ha;obtain ⟨hb1, hb2, hb3, hb4⟩ := eff_mem (ub_or b) hm he;have hab := acts_bd hm;rw [decide_eq_true (by omega), cond_true, bind_of (e2 _), bind_of (Act_ev (by omega) b hs0 (by omega) hs3 (v := w) (by omega) hf ha), chk_of (in64_of (by simp only; omega)), chk_of (in64_of (by simp only; omega)), chk_of (in64_of (by simp only; omega)), chk_of (in64_of (by simp only; omega))];refine (eff_J hm he (fun x y => ev_top_TopRateBook_j1 n (a.1, a.2, 0) day by_ truth slo shi [b] (((w + 1 : Nat)) : Int) l (fun i10q i11q i12q l13q i14q i15q l16q l17q => ev_top_TopRateBook_l0 n m i10q i11q i12q l13q i14q i15q l16q l17q) x y)).trans ?_;unfold ev_top_TopRateBook_j1;have c0 : ((0 : Int) != 0) = false := rfl;simp only [c0, cond_false];rw [decide_eq_false (by omega), cond_false, decide_eq_false (by omega), cond_false, decide_eq_false (by omega), cond_false];unfold ev_top_TopRateBook_j2;obtain ⟨r1, hr1, r10, r11⟩ := byteR_ev (n := n) hby (i := 2 * (day + 1)) (by omega);obtain ⟨r2, hr2, r20, r21⟩ := byteR_ev (n := n) hby (i := 2 * (day + 1) + 1) (by omega);have m0 := Int.emod_nonneg r1 (show e.2.1 - e.1 + 1 ≠ 0 by omega);have m1 := Int.emod_lt_of_pos r1 (show 0 < e.2.1 - e.1 + 1 by omega);have m2 := Int.emod_nonneg r2 (show (3 : Int) ≠ 0 by decide);have m3 := Int.emod_lt_of_pos r2 (show (0 : Int) < 3 by decide);rw [chk_of (in64_of (by omega)), chk_of (in64_of (by omega)), bind_of hr1, chk_of (in64_of (by omega)), chk_of (in64_of (by omega)), chk_of (by simp; omega), Int.tmod_eq_emod_of_nonneg r10, chk_of (in64_of (by omega))]
      generalize r1 % (e.2.1 - e.1 + 1) = q1 at *
      rw [chk_of (in64_of (by omega)), bind_of (e2 _), chk_of (in64_of (by omega)), chk_of (in64_of (by omega)), chk_of (in64_of (by omega)), bind_of hr2, Int.tmod_eq_emod_of_nonneg r20]
      generalize r2 % 3 = q2 at *
      rw [chk_of (in64_of (by omega))];have hA := After_ev (n := n) (by omega) b hs0 (show slo ≤ shi by omega) hs3 hm he g0 g1 (seen := truth + (e.1 + q1) - 1 + q2) (by omega) (by omega);rw [bind_of hA, bind_of (e2 _)];have hn := next_ok (v := w) hb4 g0 (show slo + e.1 ≤ shi + e.2.1 by omega) g1 g2 (seen := truth + (e.1 + q1) - 1 + q2) (by omega) (by omega);obtain ⟨v', hv', hle⟩ := few_le (show w ≤ 6 by omega) hn;rw [← ub_of hb4] at hv';have hF := Fewest_ev (n := n) (lo := max (slo + e.1) (truth + (e.1 + q1) - 1 + q2 - 1)) (hi := min (shi + e.2.1) (truth + (e.1 + q1) - 1 + q2 + 1)) (by omega) (e.2.2 == 1) (by omega) (by omega) (by omega);rw [hv'] at hF;simp only [] at hF;rw [bind_of hF];simp only [c0, cond_false];rw [decide_eq_false (by omega), cond_false, chk_of (in64_of (by omega))];have hlen := hl.len;rw [chk_of (by simp [room]; omega)];obtain ⟨l', hl'⟩ := hl.last;refine ih v' (day + 1) (e.2.2 == 1) _ _ _ _ (by omega) (by omega) (by omega) (by omega) (by omega) (by omega) (by omega) hv' ⟨⟨?_, ?_, ?_⟩, ?_, ?_, ⟨l, rfl⟩, ?_⟩
      · intro x hx;rcases List.mem_append.1 hx with hx | hx
        · exact hok.ok x hx
        · rw [List.mem_singleton] at hx; subst hx;exact ⟨by simp only; omega, .inr (.inl ⟨rfl, by simp only; omega, by simp only; omega⟩)⟩
      · rw [List.pairwise_append];refine ⟨hok.asc, by simp, fun x hx y hy => ?_⟩;rw [List.mem_singleton] at hy; subst hy;have := hl.tm x hx;simp only
        omega
      · simp only [List.length_append, List.length_singleton]; omega
      · intro x hx;rcases List.mem_append.1 hx with hx | hx
        · exact hl.k2 x hx
        · rw [List.mem_singleton] at hx; subst hx; rfl
      · intro x hx;rcases List.mem_append.1 hx with hx | hx
        · have := hl.tm x hx; omega
        · rw [List.mem_singleton] at hx; subst hx; simp
      · simp only [List.length_append, List.length_singleton]; omega
theorem topRateBook_ev {at_1 : Int} {at_2 : Int} {by_3 : List Int} (h0 : (Lit.int .u8 at_1).wf = true ∧ (Lit.int .u8 at_2).wf = true) (h1 : (by_3.length ≤ maxLen ∧ ∀ el5 ∈ by_3, (Lit.int .u8 el5).wf = true)) {n : Nat} (hn0 : 2200 ≤ n) (hbk : ev_top_pubBook n = some true) : ev_top_TopRateBook n at_1 at_2 by_3 = some true := by
  obtain ⟨a0, a1⟩ := wf8.1 h0.1;obtain ⟨b0, b1⟩ := wf8.1 h0.2;have hby : ∀ x ∈ by_3, 0 ≤ x ∧ x ≤ 255 := fun x hx => wf8.1 (h1.2 x hx)
  have e2 : ∀ n, ev_top_pubNut n = some (5, 1, 8, 10, 3, [(4, 6)]) := fun n => rfl
  have es : ∀ n x y, ev_top_pubSpan n x y = some (x, y) := fun n x y => rfl
  have m0 := Int.emod_nonneg at_1 (show (60 : Int) ≠ 0 by decide);have m1 := Int.emod_lt_of_pos at_1 (show (0 : Int) < 60 by decide);have m2 := Int.emod_nonneg at_2 (show (12 : Int) ≠ 0 by decide);have m3 := Int.emod_lt_of_pos at_2 (show (0 : Int) < 12 by decide);unfold ev_top_TopRateBook;rw [Int.tmod_eq_emod_of_nonneg a0, Int.tmod_eq_emod_of_nonneg b0, chk_of (in64_of (by omega))]
  generalize at_1 % 60 = p at *
  generalize at_2 % 12 = q at *
  rw [chk_of (in64_of (by omega)), chk_of (in64_of (by omega)), chk_of (in64_of (by omega)), bind_of (es _ _ _)];obtain ⟨r1, hr1, r10, r11⟩ := byteR_ev (n := n) hby (i := 0) (by omega);have m4 := Int.emod_nonneg r1 (show p - 30 + q - (p - 30) + 1 ≠ 0 by omega);have m5 := Int.emod_lt_of_pos r1 (show 0 < p - 30 + q - (p - 30) + 1 by omega);rw [bind_of hr1];simp only [];rw [chk_of (in64_of (by omega)), chk_of (in64_of (by omega)), chk_of (by simp; omega), Int.tmod_eq_emod_of_nonneg r10]
  generalize r1 % (p - 30 + q - (p - 30) + 1) = q1 at *
  rw [chk_of (in64_of (by omega)), bind_of (e2 _), bind_of (Fewest_ev (by omega) false (by omega) (by omega) (by omega))];have hF : ∀ o, fewF (ub false) (p - 30) (p - 30 + q) = o → o = fewF (ub false) (p - 30) (p - 30 + q) := fun o h => h.symm
  cases hf : fewF (ub false) (p - 30) (p - 30 + q) with
  | none =>
    have c0 : ((7 : Int) != 0) = true := rfl;have c1 : ((7 : Int) == 7) = true := rfl;simp only [c0, c1, cond_true];rw [bind_of (pubRate_ev (by omega)), cond_true, bind_of hbk]
  | some v =>
    have c0 : ((0 : Int) != 0) = false := rfl;simp only [c0, cond_false];have hv := (few_spec hf).1;refine rb_l hn0 hbk hby n v 0 false (p - 30) (p - 30 + q) (p - 30 + q1) _ (by omega) (by omega) (by omega) (by omega) (by omega) (by omega) (by omega) hf ⟨⟨?_, by simp, by simp⟩, ?_, ?_, ⟨[], rfl⟩, by simp⟩
    · intro x hx;rw [List.mem_singleton] at hx; subst hx;exact ⟨by simp only; omega, .inr (.inl ⟨rfl, by simp only; omega, by simp only; omega⟩)⟩
    · intro x hx;rw [List.mem_singleton] at hx; subst hx; rfl
    · intro x hx;rw [List.mem_singleton] at hx; subst hx; simp
theorem topRateBook_evx {at_1 : Int} {at_2 : Int} {by_3 : List Int} (h0 : (Lit.int .u8 at_1).wf = true ∧ (Lit.int .u8 at_2).wf = true) (h1 : (by_3.length ≤ maxLen ∧ ∀ el5 ∈ by_3, (Lit.int .u8 el5).wf = true)) :
    ∃ n, ev_top_TopRateBook n at_1 at_2 by_3 = some true := ⟨0 + 2200, topRateBook_ev h0 h1 (by omega) (pubBook_rb 0)⟩
end Go.Proofs.Ythgbjhglhejalaa.Sy
