/- RoundLaw: the round of Best keeps the law, and no other round of the winder to the same towers is quicker. -/
import Derived.Test.YtohjpfkcahlfkaaPlEvRoundL
import Derived.Test.YtohjpfkcahlfkaaPlEvRoundI
import Derived.Test.YtohjpfkcahlfkaaPlEvRoundKm
import Derived.Test.YtohjpfkcahlfkaaPlGRoundLaw
set_option linter.unusedSimpArgs false
set_option linter.unusedVariables false
namespace Go.Proofs.Ytohjpfkcahlfkaa.Sy
open Go.RowKit
set_option maxRecDepth 100000
section
variable {N : Nat} {t : List Tw} {w : List (List Int)} {g : List Wd} {rest wage : Int} (h : OkQ (t, w, g, rest, wage)) {wd : Wd} {x : Int} (hx : 0 ≤ x ∧ x < g.length) (hwd : g[x.toNat]? = some wd) {tw : List Int} (htw : towersP t.length tw = 0)
include h in
theorem cop_evn : ev_law11_copied (N + 2200) t w g rest wage = some (t, w, g, rest, wage) := by
  have hok := h.ok
  have h1 := hok.tn
  have h2 := hok.wn
  have h3 := hok.gn
  simp only at h1 h2 h3
  exact copied_ev (by omega) (by omega) (fun d hd => by have := hok.row d hd; simp only at this; omega) (by omega) (by omega)
theorem loop4 {l : List Int} (hl : l.length ≤ 100) (hr : ∀ s ∈ l, -1 ≤ s ∧ s < 8) (hall : ∀ s ∈ tw, 0 ≤ s ∧ s < 8 ∧ s ∈ l) (htl : tw.length ≤ 5) (hcount : (l.filter fun s => decide (0 ≤ s)).length = tw.length) :
    ev_law11_RoundLaw_j3 (N + 2200) tw l = some true := by
  have l5 : ∀ (seen : List Bool), seen.length = 8 → (∀ s : Int, 0 ≤ s → s < 8 → s ∈ l → seen[s.toNat]? = some true) → ∀ (k m i : Nat), i + k = tw.length → k < m → ev_law11_RoundLaw_l5 (N + 2200) tw seen (tw.length : Int) m (i : Int) = some true := by
    intro seen h8 hs k
    induction k with
    | zero =>
      intro m i hi hm
      obtain ⟨m, rfl⟩ : ∃ m', m = m' + 1 := ⟨m - 1, by omega⟩
      rw [ev_law11_RoundLaw_l5, cond_if, if_neg (by simp; omega), cond_if, if_pos (by simp), bind_of (known11n N)]
    | succ k ih =>
      intro m i hi hm
      obtain ⟨m, rfl⟩ : ∃ m', m = m' + 1 := ⟨m - 1, by omega⟩
      have hlt : i < tw.length := by omega
      obtain ⟨a1, a2, a3⟩ := hall _ (List.getElem_mem hlt)
      rw [ev_law11_RoundLaw_l5, cond_if, if_pos (decide_eq_true (by omega)), idx_nat (List.getElem?_eq_getElem hlt), chk_of (by simp; omega), idx_of a1 (hs _ a1 a2 a3), cond_if, if_neg (by simp), chk_of (in64_of (by omega))]
      exact ih m (i + 1) (by omega) (by omega)
  have l4 : ∀ (k m i : Nat) (c : Nat) (seen : List Bool), i + k = l.length → k < m → seen.length = 8 → c + ((l.drop i).filter fun s => decide (0 ≤ s)).length = tw.length → (∀ s : Int, 0 ≤ s → s < 8 → s ∈ l.take i → seen[s.toNat]? = some true) → ev_law11_RoundLaw_l4 (N + 2200) m (c : Int) (i : Int) tw l seen = some true := by
    intro k
    induction k with
    | zero =>
      intro m i c seen hi hm h8 hc hs
      obtain ⟨m, rfl⟩ : ∃ m', m = m' + 1 := ⟨m - 1, by omega⟩
      rw [List.drop_eq_nil_of_le (by omega)] at hc
      simp at hc
      rw [List.take_of_length_le (by omega)] at hs
      rw [ev_law11_RoundLaw_l4, cond_if, if_neg (by simp; omega), hc]
      exact l5 seen h8 hs tw.length (N + 2200) 0 (by omega) (by omega)
    | succ k ih =>
      intro m i c seen hi hm h8 hc hs
      obtain ⟨m, rfl⟩ : ∃ m', m = m' + 1 := ⟨m - 1, by omega⟩
      have hlt : i < l.length := by omega
      obtain ⟨r1, r2⟩ := hr _ (List.getElem_mem hlt)
      rw [List.drop_eq_getElem_cons hlt, List.filter_cons] at hc
      rw [ev_law11_RoundLaw_l4, cond_if, if_pos (decide_eq_true (by omega)), idx_nat (List.getElem?_eq_getElem hlt), cond_if]
      by_cases h0 : 0 ≤ l[i]
      · have hsl : l[i].toNat < seen.length := by omega
        rw [if_pos (by simpa using h0), List.length_cons] at hc
        rw [if_pos (decide_eq_true h0), cond_if, if_pos (decide_eq_true r2), chk_of (in64_of (by omega)), chk_of (by simp; omega), idx_of h0 (List.getElem?_eq_getElem hsl), chk_of (in64_of (by omega))]
        refine ih m (i + 1) (c + 1) _ (by omega) (by omega) (by rw [List.length_set]; exact h8) (by omega) fun s s0 s8 hs2 => ?_
        rw [List.getElem?_set]
        by_cases e : l[i].toNat = s.toNat
        · rw [if_pos e, if_pos hsl]
        · rw [if_neg e]
          rw [List.take_succ_eq_append_getElem hlt] at hs2
          rcases List.mem_append.1 hs2 with hs2 | hs2
          · exact hs s s0 s8 hs2
          · rw [List.mem_singleton] at hs2
            exact absurd (by rw [hs2]) e
      · rw [if_neg (by simpa using h0)] at hc
        rw [if_neg (by simpa using h0), chk_of (in64_of (by omega))]
        refine ih m (i + 1) c _ (by omega) (by omega) h8 hc fun s s0 s8 hs2 => ?_
        rw [List.take_succ_eq_append_getElem hlt] at hs2
        rcases List.mem_append.1 hs2 with hs2 | hs2
        · exact hs s s0 s8 hs2
        · rw [List.mem_singleton] at hs2
          rw [hs2] at s0; omega
  rw [ev_law11_RoundLaw_j3]
  exact l4 l.length (N + 2200) 0 0 _ (by omega) (by omega) rfl (by rw [List.drop_zero]; omega) (by simp)
include h hx hwd htw in
theorem end_law {who : Int} (hwho : Int.tmod who (g.length : Int) = x) {res : Bo} (hres : Bst (fun s m => candP t w rest wd (setP 0 tw) false (beginP t) s m) res) :
    ev_law11_RoundLaw_j2 (N + 2200) (bestR res) (bestR res).1 t w g rest wage who (t, w, g, rest, wage) tw = some true := by
  obtain ⟨l5, lr, ln⟩ := towers_iff.1 htw
  have hm : wd ∈ g := List.mem_of_getElem? hwd
  have hok := h.ok
  simp only at hok
  have ht := hok.tn
  cases res with
  | none =>
    rw [ev_law11_RoundLaw_j2, bestR, cond_if, if_pos (by simp), cond_if, if_pos (by simp), cond_if, if_pos (by simp), cond_if, if_pos (by simp), bind_of (known11n N)]
  | some a =>
    obtain ⟨l, m⟩ := a
    have hc : candP t w rest wd (setP 0 tw) false (beginP t) l m := hres.1
    have hlen := cand_len hok hm l _ _ m begin_ok hc
    rw [begin_meas] at hlen
    have hwk : walkR t w g rest x l = (m, 0, 0) := by
      rw [walkR, hwd]
      dsimp only
      rw [if_neg (by omega), if_neg (by omega), cand_walk l _ _ _ m hc]
    have hwe := walk_ev (n := N + 2200) hok (by omega) (x := x) (l := l) (by omega)
    rw [hwk] at hwe
    have hm0 := cand_min hok hm l _ _ m begin_ok hc
    have hmax : 0 ≤ m ∧ m ≤ 1440 := by
      have h2 := cand_walk (i := 0) l _ _ m hc
      refine ⟨hm0, ?_⟩
      have : ∀ (l : List Int) (r : Bool) (σ : Wk), OkW t σ → candP t w rest wd (setP 0 tw) r σ l m → m ≤ 1440 := by
        intro l
        induction l with
        | nil => intro r σ hσ hc; rw [hc.2.2]; exact (home_ok hok hm hσ hc.2.1).2.2
        | cons s l ih => intro r σ hσ hc; exact ih _ _ (step_ok hok hm hσ hc.2.1).1 hc.2.2
      exact this l _ _ begin_ok hc
    have hwage := hok.wage
    have hmul : m * wage ≤ 1440 * 1000 := Int.mul_le_mul hmax.2 hwage.2 hwage.1 (by decide)
    have hmul0 : 0 ≤ m * wage := Int.mul_nonneg hmax.1 hwage.1
    have h8 : ∀ s ∈ tw, 0 ≤ s ∧ s < 8 := fun s hs => by have := lr s hs; omega
    have hj3 := loop4 (N := N) (tw := tw) (l := l) (by omega) (cand_range hok hm l _ _ m begin_ok hc) (fun s hs => ⟨(h8 s hs).1, (h8 s hs).2, by
      have hmem := (cand_mem hok hm (h8 s hs).1 l _ _ m begin_ok hc).1 ((has_setP tw 0 s (h8 s hs).1 fun y hy => (h8 y hy).1).2 (.inl hs))
      rcases hmem with hmem | hmem
      · exact hmem
      · rw [show (beginP t).wo = 0 from rfl, hasP_zero] at hmem; cases hmem⟩) l5 (by
      have h1 := cand_count hok hm l _ _ m begin_ok hc
      have h2 := setP_free tw 0 (by decide) h8 ((twice_iff tw 0 fun y hy => (h8 y hy).1).2 ⟨ln, fun y _ => hasP_zero y⟩)
      rw [show (beginP t).wo = 0 from rfl] at h1
      omega)
    rw [ev_law11_RoundLaw_j2, bestR, cond_if, if_neg (by simp), bind_of (cop_evn h), bind_of (ints_ev (by dsimp only; omega))]
    dsimp only
    rw [hwho, bind_of hwe, cond_if, if_neg (by simp), cond_if, if_neg (by simp), chk_of (in64_of (by omega)), cond_if, if_neg (by simp)]
    exact hj3
structure OkO (tw : List Int) (b : Int) (i : Nat) (o : List Int) : Prop where
  rr : noRR false o
  last : i ≤ tw.length → lastR false o = false
  mem : ∀ s ∈ o, s = -1 ∨ s ∈ tw
  all : ∀ j : Nat, j < i → j < tw.length → ∀ y, tw[(((j : Int) + b) % (tw.length : Int)).toNat]? = some y → y ∈ o
  len : o.length ≤ 2 * i
theorem rot_all {tw : List Int} {b : Int} (hb : 0 ≤ b) {i : Nat} {o : List Int} (ho : OkO tw b i o) (hi : tw.length ≤ i) : ∀ y ∈ tw, y ∈ o := by
  intro y hy
  obtain ⟨j, hj⟩ := List.getElem?_of_mem hy
  have hjl : j < tw.length := (List.getElem?_eq_some_iff.1 hj).1
  have hc0 := Int.emod_nonneg b (show (tw.length : Int) ≠ 0 by omega)
  have hc1 := Int.emod_lt_of_pos b (show (0 : Int) < tw.length by omega)
  obtain ⟨c, hc⟩ : ∃ c, c = b % (tw.length : Int) := ⟨_, rfl⟩
  rw [← hc] at hc0 hc1
  have key : ∀ k : Nat, ((k : Int) + c = j ∨ (k : Int) + c = j + tw.length) → (((k : Int) + b) % (tw.length : Int)) = j := fun k hk => by
    rw [Int.add_emod, ← hc]
    have e : ((k : Int) % (tw.length : Int) + c) % (tw.length : Int) = ((k : Int) + c) % (tw.length : Int) := by rw [Int.emod_add_emod]
    rw [e]
    rcases hk with hk | hk
    · rw [hk]; exact Int.emod_eq_of_lt (by omega) (by omega)
    · rw [hk, Int.add_emod_right]; exact Int.emod_eq_of_lt (by omega) (by omega)
  by_cases hcj : c ≤ j
  · refine ho.all ((j : Int) - c).toNat (by omega) (by omega) y ?_
    rw [key _ (by omega), Int.toNat_natCast]; exact hj
  · refine ho.all ((j : Int) + tw.length - c).toNat (by omega) (by omega) y ?_
    rw [key _ (by omega), Int.toNat_natCast]; exact hj
include h hx hwd htw in
theorem loop_law {who : Int} (hwho : Int.tmod who (g.length : Int) = x) {res : Bo} (hres : Bst (fun s m => candP t w rest wd (setP 0 tw) false (beginP t) s m) res) {by7 by8 : List Int} (h8 : ∀ x ∈ by8, B8 x) {b : Int} (hb : ev_law11_byteOf (N + 2200) by8 9 = some b) (hb0 : 0 ≤ b ∧ b ≤ 255) :
    ∀ (k m i : Nat) (o : List Int), i + k = tw.length + 1 → k < m → OkO tw b i o →
    ev_law11_RoundLaw_l0 (N + 2200) who (t, w, g, rest, wage) (bestR res) m (i : Int) rest wage tw (bestR res).1 o by7 by8 t w g = some true := by
  obtain ⟨l5, lr, ln⟩ := towers_iff.1 htw
  have hm : wd ∈ g := List.mem_of_getElem? hwd
  have hok := h.ok
  simp only at hok
  have ht := hok.tn
  intro k
  induction k with
  | zero =>
    intro m i o hi hm2 ho
    obtain ⟨m, rfl⟩ : ∃ m', m = m' + 1 := ⟨m - 1, by omega⟩
    have hlen := ho.len
    have hj2 := end_law h hx hwd htw hwho hres (N := N)
    have hwe := walk_ev (n := N + 2200) hok (by omega) (x := x) (l := o) (by omega)
    have hwk : walkR t w g rest x o = walkP t w rest wd 0 (beginP t) o := by
      rw [walkR, hwd]
      dsimp only
      rw [if_neg (by omega), if_neg (by omega)]
    rw [hwk] at hwe
    rw [ev_law11_RoundLaw_l0, cond_if, if_neg (by simp; omega), bind_of (cop_evn h)]
    dsimp only
    rw [hwho, bind_of hwe, cond_if]
    by_cases h0 : (walkP t w rest wd 0 (beginP t) o).2.2 = 0
    · have h8t : ∀ s ∈ tw, 0 ≤ s ∧ s < 8 := fun s hs => by have := lr s hs; omega
      have hgoal := setP_ok tw 0 (by decide) h8t
      have hhas := fun k (k0 : 0 ≤ k) => has_setP tw 0 k k0 fun y hy => (h8t y hy).1
      have hc := walk_cand hok hm hgoal o false (beginP t) 0 begin_ok h0 ho.rr (fun s hs s0 => by
        rcases ho.mem s hs with e | e
        · omega
        · exact (hhas s s0).2 (.inl e)) fun k k0 k8 => by
        rw [hhas k k0, show (beginP t).wo = 0 from rfl]
        constructor
        · rintro (e | e)
          · exact .inl (rot_all hb0.1 ho (by omega) k e)
          · exact .inr e
        · rintro (e | e)
          · rcases ho.mem k e with e2 | e2
            · omega
            · exact .inl e2
          · exact .inr e
      have hmin := cand_min hok hm o _ _ _ begin_ok hc
      have hmax : (walkP t w rest wd 0 (beginP t) o).1 ≤ 1440 := by
        have : ∀ (l : List Int) (r : Bool) (σ : Wk) (m : Int), OkW t σ → candP t w rest wd (setP 0 tw) r σ l m → m ≤ 1440 := by
          intro l
          induction l with
          | nil => intro r σ m hσ hc; rw [hc.2.2]; exact (home_ok hok hm hσ hc.2.1).2.2
          | cons s l ih => intro r σ m hσ hc; exact ih _ _ _ (step_ok hok hm hσ hc.2.1).1 hc.2.2
        exact this o _ _ _ begin_ok hc
      have hmin0 : 0 ≤ (walkP t w rest wd 0 (beginP t) o).1 := hmin
      have hwage := hok.wage
      have hmul : (walkP t w rest wd 0 (beginP t) o).1 * wage ≤ 1440 * 1000 := Int.mul_le_mul hmax hwage.2 hwage.1 (by decide)
      have hmul0 : 0 ≤ (walkP t w rest wd 0 (beginP t) o).1 * wage := Int.mul_nonneg hmin0 hwage.1
      cases res with
      | none => exact absurd hc (hres _ _)
      | some a =>
        have hle : a.2 ≤ (walkP t w rest wd 0 (beginP t) o).1 := by
          rcases hres.2 _ _ hc with e | ⟨e, _⟩ <;> omega
        rw [if_pos (by simpa using h0), cond_if, if_neg (by simp [bestR]), cond_if, if_neg (fun e => by
          have e : (walkP t w rest wd 0 (beginP t) o).1 < a.2 := of_decide_eq_true e
          omega)]
        dsimp only
        rw [chk_of (in64_of (by omega)), cond_if, if_neg (by simp)]
        exact hj2
    · rw [if_neg (by simpa using h0)]
      exact hj2
  | succ k ih =>
    intro m i o hi hm2 ho
    obtain ⟨m, rfl⟩ : ∃ m', m = m' + 1 := ⟨m - 1, by omega⟩
    have hlen := ho.len
    obtain ⟨b1, hb1, hb2, hb3⟩ := byteOf_ev (n := N + 2200) h8 (i := (i : Int)) (by omega)
    have hj1 : ∀ o1 : List Int, noRR false o1 → (∀ s ∈ o1, s = -1 ∨ s ∈ tw) → (∀ s ∈ o, s ∈ o1) → o1.length ≤ 2 * i + 1 →
        ev_law11_RoundLaw_j1 (N + 2200) (i : Int) (fun i14q i15q i17q l18q l19q l20q l21q l22q l23q l24q l25q => ev_law11_RoundLaw_l0 (N + 2200) who (t, w, g, rest, wage) (bestR res) m i14q i15q i17q l18q l19q l20q l21q l22q l23q l24q l25q) rest wage tw (bestR res).1 o1 by7 by8 t w g = some true := fun o1 n1 n2 n3 n4 => by
      rw [ev_law11_RoundLaw_j1, cond_if]
      by_cases hlt : i < tw.length
      · have hz0 := Int.emod_nonneg ((i : Int) + b) (show (tw.length : Int) ≠ 0 by omega)
        have hz1 := Int.emod_lt_of_pos ((i : Int) + b) (show (0 : Int) < tw.length by omega)
        have hzl : (((i : Int) + b) % (tw.length : Int)).toNat < tw.length := by omega
        have e := tmod_of (a := (i : Int) + b) (b := (tw.length : Int)) (by omega)
        have hmem := List.getElem_mem hzl
        have hy := lr _ hmem
        rw [if_pos (decide_eq_true (by omega)), bind_of hb, chk_of (in64_of (by omega)), chk_of (by simp; intro e; simp [e] at hlt), e, idx_of hz0 (List.getElem?_eq_getElem hzl), chk_of (room_iff.2 (by simp; omega)), chk_of (in64_of (by omega))]
        refine ih m (i + 1) _ (by omega) (by omega) ⟨noRR_app _ o1 _ n1 (fun e => by omega), fun _ => by rw [lastR_app]; simp; omega, fun s hs => ?_, fun j hj hjl y hy2 => ?_, by rw [List.length_append]; simp; omega⟩
        · rcases List.mem_append.1 hs with hs | hs
          · exact n2 s hs
          · rw [List.mem_singleton] at hs; rw [hs]; exact .inr hmem
        · by_cases hji : j = i
          · subst hji
            rw [List.getElem?_eq_getElem hzl] at hy2
            rw [← Option.some.inj hy2]
            exact List.mem_append.2 (.inr (by simp))
          · exact List.mem_append.2 (.inl (n3 y (ho.all j (by omega) hjl y hy2)))
      · rw [if_neg (by simp; omega), chk_of (in64_of (by omega))]
        exact ih m (i + 1) o1 (by omega) (by omega) ⟨n1, fun hh => by omega, n2, fun j hj hjl y hy2 => n3 y (ho.all j (by omega) hjl y hy2), by omega⟩
    rw [ev_law11_RoundLaw_l0, cond_if, if_pos (decide_eq_true (by omega)), bind_of hb1, cond_if]
    split
    · rw [chk_of (room_iff.2 (by simp; omega))]
      refine hj1 _ (noRR_app _ o _ ho.rr fun _ => ho.last (by omega)) (fun s hs => ?_) (fun s hs => List.mem_append.2 (.inl hs)) (by rw [List.length_append]; simp; omega)
      rcases List.mem_append.1 hs with hs | hs
      · exact ho.mem s hs
      · rw [List.mem_singleton] at hs; exact .inl hs
    · exact hj1 o ho.rr ho.mem (fun s hs => hs) (by omega)
end
theorem roundLaw_evx {x1 : List (Int × Int × Int × Int × Int)} {x2 : List Int} {x3 : List (Int × Int × Int × Int)} {x4 : Int} {x5 : Int} {who6 : Int} {by_7 : List Int} {by_8 : List Int} (h0 : (x1.length ≤ maxLen ∧ ∀ el89 ∈ x1, (Lit.int .u8 el89.1).wf = true ∧ (Lit.int .u8 el89.2.1).wf = true ∧ (Lit.int .u8 el89.2.2.1).wf = true ∧ (Lit.int .u8 el89.2.2.2.1).wf = true ∧ (Lit.int .u8 el89.2.2.2.2).wf = true) ∧ (x2.length ≤ maxLen ∧ ∀ el5 ∈ x2, (Lit.int .u8 el5).wf = true) ∧ (x3.length ≤ maxLen ∧ ∀ el90 ∈ x3, (Lit.int .u8 el90.1).wf = true ∧ (Lit.int .u8 el90.2.1).wf = true ∧ (Lit.int .u8 el90.2.2.1).wf = true ∧ (Lit.int .u8 el90.2.2.2).wf = true) ∧ (Lit.int .u8 x4).wf = true ∧ (Lit.int .u8 x5).wf = true) (h1 : (Lit.int .u8 who6).wf = true) (h2 : (by_7.length ≤ maxLen ∧ ∀ el5 ∈ by_7, (Lit.int .u8 el5).wf = true) ∧ (by_8.length ≤ maxLen ∧ ∀ el5 ∈ by_8, (Lit.int .u8 el5).wf = true)) :
    ∃ n, ev_law11_RoundLaw n x1 x2 x3 x4 x5 who6 by_7 by_8 = some true := by
  obtain ⟨⟨_, a1⟩, ⟨_, a2⟩, ⟨_, a3⟩, a4, a5⟩ := h0
  obtain ⟨⟨b1, b2⟩, ⟨_, b4⟩⟩ := h2
  rw [show maxLen = 9223372036854775807 from rfl] at b1
  obtain ⟨r, hr, hq⟩ := rules_ev (n := by_7.length + 2200) (by omega) (x1 := x1) (x2 := x2) (x3 := x3) (fun y hy => by
    obtain ⟨b1, b2, b3, b4, b5⟩ := a1 y hy
    exact ⟨wf8.1 b1, wf8.1 b2, wf8.1 b3, wf8.1 b4, wf8.1 b5⟩) (fun y hy => wf8.1 (a2 y hy)) (fun y hy => by
    obtain ⟨b1, b2, b3, b4⟩ := a3 y hy
    exact ⟨wf8.1 b1, wf8.1 b2, wf8.1 b3, wf8.1 b4⟩) (wf8.1 a4) (wf8.1 a5)
  obtain ⟨t, w, g, rest, wage⟩ := r
  have hok := hq.ok
  simp only at hok
  have ht := hok.tn
  have hg := hok.gn
  have w1 := wf8.1 h1
  obtain ⟨tw, hs, s1, s2, s3⟩ := some_ev (n := by_7.length + 2200) (t := t) (w := w) (g := g) (rest := rest) (wage := wage) (most := 5) ht (l := by_7) (fun x hx => wf8.1 (b2 x hx)) (by omega) b1 (by decide)
  have htw : towersP t.length tw = 0 := towers_iff.2 ⟨by omega, s2, s1⟩
  have hz0 := Int.emod_nonneg who6 (show (g.length : Int) ≠ 0 by omega)
  have hz1 := Int.emod_lt_of_pos who6 (show (0 : Int) < g.length by omega)
  have hlt : (who6 % (g.length : Int)).toNat < g.length := by omega
  have e := tmod_of (a := who6) (b := (g.length : Int)) w1.1
  obtain ⟨res, hbest, hres⟩ := best_ev (n := by_7.length + 2200) (by omega) hok (x := who6 % (g.length : Int)) ⟨hz0, hz1⟩ (List.getElem?_eq_getElem hlt) htw
  obtain ⟨b, hb, hb0, hb1⟩ := byteOf_ev (n := by_7.length + 2200) (l := by_8) (fun x hx => wf8.1 (b4 x hx)) (i := 9) (by decide)
  refine ⟨by_7.length + 2200, ?_⟩
  rw [ev_law11_RoundLaw, bind_of hr, chk_of (in64_of (by omega)), chk_of (by simp; intro e; simp [e] at hg), bind_of hs, bind_of (cop_evn hq), bind_of (ints_ev (by omega))]
  dsimp only
  rw [e, bind_of hbest]
  exact loop_law hq ⟨hz0, hz1⟩ (List.getElem?_eq_getElem hlt) htw e hres (fun x hx => wf8.1 (b4 x hx)) hb ⟨hb0, hb1⟩ (tw.length + 1) (by_7.length + 2200) 0 [] (by omega) (by omega) ⟨trivial, fun _ => rfl, by simp, fun j hj => by omega, by simp⟩
end Go.Proofs.Ytohjpfkcahlfkaa.Sy
