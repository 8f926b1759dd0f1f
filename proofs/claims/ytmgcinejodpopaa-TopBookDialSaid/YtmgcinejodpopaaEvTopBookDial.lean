/- What the books say is shown. -/
import Derived.Test.YtmgcinejodpopaaGTopBookDial
import Derived.Test.YtmgcinejodpopaaEvDial
import Derived.Test.YtmgcinejodpopaaEvHands
set_option linter.unusedSimpArgs false
set_option linter.unusedVariables false
namespace Go.Proofs.Ytmgcinejodpopaa.Sy
open Go.RowKit
set_option maxRecDepth 100000

theorem pubBookD_ev : ev_top_pubBook 2200 = some true := by decide +kernel
theorem pubDialB_ev : ev_top_pubDial 2200 = some true := by decide +kernel
theorem ev_pubRest {n : Nat} {a b : Int} (ha : -100000000000 ≤ a ∧ a ≤ 100000000000) (hb : 1 ≤ b ∧ b ≤ 100000000) : ev_top_pubRest n a b = some (a % b) := by
  have h1 := Int.tmod_lt_of_pos a (show 0 < b by omega)
  have h2 : -b < Int.tmod a b := by
    have := Int.tmod_lt_of_pos (-a) (show 0 < b by omega)
    rw [Int.neg_tmod] at this; omega
  have h3 : a % b = (Int.tmod a b + b) % b := by
    rw [Int.add_emod_right, show Int.tmod a b = a - b * Int.tdiv a b by have := Int.mul_tdiv_add_tmod a b; omega, Int.sub_mul_emod_self_left]
  rw [ev_top_pubRest, chk_of (by simp; omega), chk_of (in64_of (by omega)), chk_of (by simp; omega), Int.tmod_eq_emod_of_nonneg (a := Int.tmod a b + b) (by omega), ← h3]
/-- the entries of a time and numbers -/
def entP (t : Int) (x : Int × Int) : BE := (t, 1 + x.2 % 4, if x.2 % 4 = 0 then (t + x.2 % 600 - 300) % 43200 else if x.2 % 4 = 1 then x.2 % 4000 - 2000 else 0)
def entsP : Int → List (Int × Int) → List BE
  | _, [] => []
  | t, x :: xs => entP (t + (1 + 97 * x.1)) x :: entsP (t + (1 + 97 * x.1)) xs
def OkBy (by_ : List (Int × Int)) : Prop := ∀ x ∈ by_, (0 ≤ x.1 ∧ x.1 ≤ 65535) ∧ (0 ≤ x.2 ∧ x.2 ≤ 65535)
theorem entsP_ok : ∀ (l : List (Int × Int)) (t : Int), OkBy l → -1 ≤ t → t + 6356897 * (l.length : Int) ≤ 3155760000 → (∀ x ∈ entsP t l, okE x ∧ t < x.1) ∧ (entsP t l).Pairwise (fun a b => a.1 < b.1) ∧ (entsP t l).length = l.length := by
  intro l
  induction l with
  | nil => intro t _ _ _; simp [entsP]
  | cons x xs ih =>
    intro t hb ht hm
    obtain ⟨⟨a0, a1⟩, b0, b1⟩ := hb x List.mem_cons_self
    simp only [List.length_cons] at hm
    obtain ⟨g1, g2, g3⟩ := ih (t + (1 + 97 * x.1)) (fun z hz => hb z (List.mem_cons_of_mem _ hz)) (by omega) (by omega)
    simp only [entsP]
    refine ⟨fun z hz => ?_, ?_, by simp [g3]⟩
    · rcases List.mem_cons.1 hz with rfl | hz
      · refine ⟨⟨by simp only [entP]; omega, ?_⟩, by simp only [entP]; omega⟩
        simp only [entP]
        have : x.2 % 4 = 0 ∨ x.2 % 4 = 1 ∨ x.2 % 4 = 2 ∨ x.2 % 4 = 3 := by omega
        rcases this with e | e | e | e
        · rw [e]; simp only [if_true]; exact .inl ⟨by omega, by omega, by omega⟩
        · rw [e]; simp only [show ((1 : Int) = 0) = False by simp, if_false, if_true]; exact .inr (.inl ⟨by omega, by omega, by omega⟩)
        · rw [e]; simp only [show ((2 : Int) = 0) = False by simp, show ((2 : Int) = 1) = False by simp, if_false]; exact .inr (.inr (.inl ⟨by omega, trivial⟩))
        · rw [e]; simp only [show ((3 : Int) = 0) = False by simp, show ((3 : Int) = 1) = False by simp, if_false]; exact .inr (.inr (.inr ⟨by omega, trivial⟩))
      · exact ⟨(g1 z hz).1, by have := (g1 z hz).2; omega⟩
    · rw [List.pairwise_cons]
      exact ⟨fun z hz => by have := (g1 z hz).2; simp only [entP]; omega, g2⟩
theorem ev_BookDial_l0 {n : Nat} {at_ : Int} {by_ : List (Int × Int)} (hb : OkBy by_) (hl : by_.length ≤ 9223372036854775807) : ∀ (k m i : Nat) (t : Int) (acc : List BE), i + k = min by_.length 20 → k < m → acc.length = i → -1 ≤ t → t ≤ 6356897 * (i : Int) →
    ev_top_TopBookDial_l0 n at_ m t (i : Int) by_ acc = ev_top_TopBookDial_j2 n at_ (acc ++ entsP t ((by_.take 20).drop i)) := by
  intro k
  induction k with
  | zero =>
    intro m i t acc hi hm ha ht0 ht
    cases m with
    | zero => omega
    | succ m =>
      have hd : (by_.take 20).drop i = [] := List.drop_eq_nil_of_le (by simp; omega)
      rw [hd, ev_top_TopBookDial_l0, cond_if]
      simp only [entsP, List.append_nil]
      by_cases h : i < by_.length
      · rw [if_pos (by simp; omega), cond_if, if_neg (by simp; omega)]
      · rw [if_neg (by simp; omega)]
  | succ k ih =>
    intro m i t acc hi hm ha ht0 ht
    cases m with
    | zero => omega
    | succ m =>
      have hlt : i < by_.length := by omega
      have hlt2 : i < (by_.take 20).length := by simp; omega
      obtain ⟨x, hx⟩ : ∃ x, x = by_[i] := ⟨_, rfl⟩
      have hget : by_[i]? = some x := by rw [hx, List.getElem?_eq_getElem hlt]
      have hx2 : (by_.take 20)[i] = x := by rw [hx, List.getElem_take]
      obtain ⟨⟨a0, a1⟩, b0, b1⟩ := hb x (List.mem_of_getElem? hget)
      have e4 : Int.tmod x.2 4 = x.2 % 4 := Int.tmod_eq_emod_of_nonneg b0
      have e6 : Int.tmod x.2 600 = x.2 % 600 := Int.tmod_eq_emod_of_nonneg b0
      have e40 : Int.tmod x.2 4000 = x.2 % 4000 := Int.tmod_eq_emod_of_nonneg b0
      have hu : inK .u16 (1 + x.2 % 4) = true := by
        simp only [inK, fits, IntKind.wrap, decide_eq_true_eq]
        simp [IntKind.bits, IntKind.signed]
        omega
      rw [ev_top_TopBookDial_l0, cond_if, if_pos (by simp; omega), cond_if, if_pos (by simp; omega), ev_top_TopBookDial_j1, idx_nat hget]
      simp only [e4, e6, e40]
      rw [chk_of (in64_of (by omega)), chk_of (in64_of (by omega)), chk_of (in64_of (by omega)), chk_of (in64_of (by omega)), chk_of hu, chk_of (in64_of (by omega)), List.drop_eq_getElem_cons hlt2, hx2]
      simp only [entsP]
      have hnext : ∀ v, entP (t + (1 + 97 * x.1)) x = (t + (1 + 97 * x.1), 1 + x.2 % 4, v) → chk (in64 ((i : Int) + 1)) (ev_top_TopBookDial_l0 n at_ m (t + (1 + 97 * x.1)) ((i : Int) + 1) by_ (acc ++ [(t + (1 + 97 * x.1), 1 + x.2 % 4, v)])) = ev_top_TopBookDial_j2 n at_ (acc ++ entP (t + (1 + 97 * x.1)) x :: entsP (t + (1 + 97 * x.1)) ((by_.take 20).drop (i + 1))) := fun v hv => by
        have := ih m (i + 1) (t + (1 + 97 * x.1)) (acc ++ [entP (t + (1 + 97 * x.1)) x]) (by omega) (by omega) (by simp; omega) (by omega) (by omega)
        rw [List.append_assoc, List.singleton_append] at this
        rw [chk_of (in64_of (by omega)), ← this, hv]
        congr 1
      rw [cond_if]
      by_cases k0 : x.2 % 4 = 0
      · rw [if_pos (by rw [k0]; rfl), chk_of (in64_of (by omega)), chk_of (in64_of (by omega)), chk_of (in64_of (by omega)), bind_of (ev_pubRest (by omega) (by omega)), chk_of (room_iff.2 (by simp; omega))]
        exact hnext _ (by simp [entP, k0])
      · rw [if_neg (by simp; omega), cond_if]
        by_cases k1 : x.2 % 4 = 1
        · rw [if_pos (by rw [k1]; rfl), chk_of (in64_of (by omega)), chk_of (in64_of (by omega)), chk_of (room_iff.2 (by simp; omega))]
          exact hnext _ (by simp [entP, k1])
        · rw [if_neg (by simp; omega), chk_of (room_iff.2 (by simp; omega))]
          exact hnext _ (by simp [entP, k0, k1])
theorem topBookDial_ev {by_ : List (Int × Int)} {at_ : Int} (hb : OkBy by_) (hl : by_.length ≤ 9223372036854775807) (ha : 0 ≤ at_ ∧ at_ ≤ 4294967295) : ev_top_TopBookDial 2200 by_ at_ = some true := by
  have h0 := ev_BookDial_l0 (n := 2200) (at_ := at_) hb hl (min by_.length 20) 2200 0 (-1) [] (by omega) (by omega) rfl (by omega) (by omega)
  simp only [List.drop_zero, List.nil_append] at h0
  have hlen : (by_.take 20).length ≤ 20 := by simp; omega
  obtain ⟨g1, g2, g3⟩ := entsP_ok (by_.take 20) (-1) (fun x hx => hb x (List.mem_of_mem_take hx)) (by omega) (by omega)
  obtain ⟨l, hle⟩ : ∃ l, l = entsP (-1) (by_.take 20) := ⟨_, rfl⟩
  rw [← hle] at h0 g1 g2 g3
  have hes : OkEs l := ⟨fun x hx => (g1 x hx).1, g2, by omega⟩
  have et : Int.tmod at_ 100000000 = at_ % 100000000 := Int.tmod_eq_emod_of_nonneg ha.1
  obtain ⟨t, ht⟩ : ∃ t, t = at_ % 100000000 := ⟨_, rfl⟩
  have ht' : 0 ≤ t ∧ t < 100000000 := by omega
  have hok := atP_ok hes.ok (t := t) (by omega) (by omega)
  have s0 := hok.s0
  have s1 := hok.s1
  obtain ⟨nn, hnn⟩ : ∃ nn, nn = (atP l t).1 / 86400 := ⟨_, rfl⟩
  have hnr : 0 ≤ nn ∧ nn < 43200000 := by omega
  have hH := ev_Hands (n := 2200) hes (t := t) (by omega) (by omega) (by decide)
  rw [← hnn] at hH
  have es : Int.tdiv nn 1000 = nn / 1000 := Int.tdiv_eq_ediv_of_nonneg hnr.1
  obtain ⟨sh, hsh⟩ : ∃ sh, sh = nn / 1000 := ⟨_, rfl⟩
  have hsr : 0 ≤ sh ∧ sh < 43200 := by omega
  have hj4 : ev_top_TopBookDial_j4 2200 = some true := by rw [ev_top_TopBookDial_j4, bind_of pubDialB_ev, cond_if, if_pos rfl, bind_of pubBookD_ev]
  refine h0.trans ?_
  have hH' : ev_book_Hands 2200 ([] ++ l) t = some (nn, !(atP l t).2.2.2, 0) := hH
  rw [ev_top_TopBookDial_j2, chk_of (in64_of (by omega)), chk_of (room_iff.2 (by simp; omega)), et, ← ht, bind_of hH', cond_if, if_neg (by simp), cond_if, if_neg (by simp; omega), cond_if, if_neg (by simp; omega), ev_top_TopBookDial_j3]
  simp only [es, et, ← ht, ← hsh]
  obtain ⟨r, hr⟩ : ∃ r, r = (sh - t + 21600) % 43200 := ⟨_, rfl⟩
  have hr0 : ev_top_pubRest 2200 (sh - t + 21600) 43200 = some r := by rw [hr]; exact ev_pubRest (by omega) (by omega)
  rw [chk_of (in64_of (by omega)), chk_of (in64_of (by omega)), chk_of (in64_of (by omega)), bind_of hr0, chk_of (in64_of (by omega)), cond_if]
  by_cases k1 : r - 21600 < -3600
  · rw [if_pos (by simpa using k1)]; exact hj4
  · rw [if_neg (by simpa using k1), cond_if]
    by_cases k2 : 3600 < r - 21600
    · rw [if_pos (by simpa using k2)]; exact hj4
    · rw [if_neg (by simpa using k2), ev_top_TopBookDial_j5]
      have hsp : ev_top_pubSpan 2200 (r - 21600) (r - 21600) = some (r - 21600, r - 21600) := by rw [ev_top_pubSpan]
      have hsp2 : ev_top_pubSpan 2200 sh sh = some (sh, sh) := by rw [ev_top_pubSpan]
      obtain ⟨f, hf⟩ : ∃ f : Face, f = (0, 0, [], 0, 0) := ⟨_, rfl⟩
      have hfo : FaceOk f 0 := by rw [hf]; exact ⟨by decide, by decide, by decide, .inl ⟨rfl, rfl⟩⟩
      have hS := ev_Shows (n := 2200) (by decide) (j := 1) (by decide) (by decide) (e := r - 21600) (by omega) hfo (at_ := t) (w1 := 0) (w2 := 0) (by omega) (by decide)
      have hd : drivenP 1 (t + (r - 21600)) = t + (r - 21600) := by unfold drivenP; omega
      have hh : handsP f 0 (t + (r - 21600)) 0 0 = (t + (r - 21600), t + (r - 21600)) := by
        have hfc : forceP f (t + (r - 21600)) = 0 := by rw [hf]; unfold forceP; split <;> rfl
        have hlg : lagsP f 0 (t + (r - 21600)) 0 0 = (0, 0) := by unfold lagsP; rw [hfc, hf]; rfl
        unfold handsP; rw [hlg, hf]; simp
      have hm : (t + (r - 21600)) % 43200 = sh := by omega
      have hspn : spansP (t + (r - 21600), t + (r - 21600)) = [(sh, sh)] := by
        unfold spansP
        simp only [hm]
        rw [if_neg (by omega), show min 43199 (sh + (t + (r - 21600) - (t + (r - 21600)))) = sh by omega]
      rw [hd, hh, hspn, hf] at hS
      have hS' : ev_dial_Shows 2200 1 (r - 21600) (r - 21600) [(0, 0, [], 0, 0)] 0 t 0 0 = some ([(sh, sh)], 0) := hS
      simp only [es, et, ← ht, ← hsh]
      rw [bind_of hsp]
      simp only [es, et, ← ht, ← hsh]
      rw [bind_of hS', cond_if, if_pos (by rfl), cond_if, if_pos (by rfl), idx_of (x := (sh, sh)) (by decide) (by rfl), bind_of hsp2, cond_if, if_pos (by simp), bind_of pubDialB_ev, cond_if, if_pos rfl, bind_of pubBookD_ev]
theorem topBookDial_evx {by_1 : List (Int × Int)} {at_2 : Int} (h0 : (by_1.length ≤ maxLen ∧ ∀ el132 ∈ by_1, (Lit.int .u16 el132.1).wf = true ∧ (Lit.int .u16 el132.2).wf = true)) (h1 : (Lit.int .u32 at_2).wf = true) :
    ∃ n, ev_top_TopBookDial n by_1 at_2 = some true := by
  have w1 : 0 ≤ at_2 ∧ at_2 ≤ 4294967295 := by
    simpa only [Lit.wf, Bool.and_eq_true, decide_eq_true_eq, show IntKind.u32.min = 0 from rfl, show IntKind.u32.max = 4294967295 from rfl] using h1
  refine ⟨2200, topBookDial_ev (fun x hx => ?_) (Nat.le_trans h0.1 (by decide)) w1⟩
  have := h0.2 x hx
  simpa only [Lit.wf, Bool.and_eq_true, decide_eq_true_eq, show IntKind.u16.min = 0 from rfl, show IntKind.u16.max = 65535 from rfl] using this
end Go.Proofs.Ytmgcinejodpopaa.Sy
