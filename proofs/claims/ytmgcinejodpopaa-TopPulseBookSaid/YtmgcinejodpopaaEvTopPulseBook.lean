/- A minute that is lost. -/
import Derived.Test.YtmgcinejodpopaaGTopPulseBook
import Derived.Test.YtmgcinejodpopaaEvPulse
import Derived.Test.YtmgcinejodpopaaEvHands
set_option linter.unusedSimpArgs false
set_option linter.unusedVariables false
namespace Go.Proofs.Ytmgcinejodpopaa.Sy
open Go.RowKit
set_option maxRecDepth 100000

theorem pubBookP_ev : ev_top_pubBook 6100 = some true := by decide +kernel
theorem pubPulseP_ev : ev_top_pubPulse 6100 = some true := by decide +kernel
def c0P : CK := (0, 0, 0, false)
def valP (last cnt : Int) : Int := (60 * last - 60 * cnt) % 43200 * 86400000
/-- the entries of the minutes that were lost -/
structure EInv (l : List BE) (last cnt : Int) : Prop where
  fold : l.foldl doP c0P = (valP last cnt, 0, 60 * last, false)
  nil : l = [] → last = 0 ∧ cnt = 0
  init : l ≠ [] → ∃ a w, l = a ++ [((60 * last, 4, 0) : BE)] ∧ a.foldl doP c0P = (valP last cnt, 0, w, true)
  ok : ∀ x ∈ l, okE x ∧ x.1 ≤ 60 * last
  asc : l.Pairwise fun a b => a.1 < b.1
theorem run_fold : ∀ (l : List BE) (c : CK) (t : Int), (∀ x ∈ l, x.1 ≤ t) → (runP l c t).1 = toP (l.foldl doP c) t := by
  intro l
  induction l with
  | nil => intro c t _; rfl
  | cons x l ih =>
    intro c t h
    simp only [runP, List.foldl_cons]
    rw [if_pos (h x List.mem_cons_self)]
    exact ih _ _ fun z hz => h z (List.mem_cons_of_mem _ hz)
theorem EInv.hands {l : List BE} {last cnt : Int} (h : EInv l last cnt) {t : Int} (ht : last ≤ t) : (atP l (60 * t)).1 / 86400 = 60000 * ((t - cnt) % 720) := by
  have e : atP l (60 * t) = toP (valP last cnt, 0, 60 * last, false) (60 * t) := by
    unfold atP
    rw [show ((0, 0, 0, false) : CK) = c0P from rfl, run_fold l c0P _ fun x hx => by have := (h.ok x hx).2; omega, h.fold]
  rw [e]
  simp only [toP, valP, Bool.false_eq_true, if_false]
  omega
theorem doP_stop {v w : Int} {b : Bool} {t : Int} : doP (v, 0, w, b) (t, 3, 0) = ((toP (v, 0, w, b) t).1, 0, t, true) := by
  unfold doP toP
  cases b <;> simp
theorem doP_go {v w : Int} {t : Int} : doP (v, 0, w, true) (t, 4, 0) = (v, 0, t, false) := by
  unfold doP toP; simp
/-- one minute behind the one before -/
theorem EInv.on {l : List BE} {last cnt : Int} (h : EInv l last cnt) (hne : l ≠ []) (h0 : 0 ≤ last) (h1 : last ≤ 100000) : EInv (l.take (l.length - 1) ++ [((60 * (last + 1), 4, 0) : BE)]) (last + 1) (cnt + 1) := by
  obtain ⟨a, w, e, ha⟩ := h.init hne
  have et : l.take (l.length - 1) = a := by rw [e]; simp
  rw [et]
  have hv : valP (last + 1) (cnt + 1) = valP last cnt := by unfold valP; congr 2; omega
  refine ⟨?_, fun q => by simp at q, fun _ => ⟨a, w, rfl, by rw [hv]; exact ha⟩, fun x hx => ?_, ?_⟩
  · rw [List.foldl_append, ha, List.foldl_cons, List.foldl_nil, doP_go, hv]
  · rcases List.mem_append.1 hx with hx | hx
    · have := h.ok x (by rw [e]; exact List.mem_append_left _ hx); exact ⟨this.1, by omega⟩
    · rw [List.mem_singleton] at hx; subst hx; exact ⟨⟨by simp only; omega, .inr (.inr (.inr ⟨rfl, rfl⟩))⟩, by simp⟩
  · have hp := h.asc
    rw [e, List.pairwise_append] at hp
    rw [List.pairwise_append]
    refine ⟨hp.1, List.pairwise_singleton _ _, fun x hx y hy => ?_⟩
    rw [List.mem_singleton] at hy; subst hy
    have := hp.2.2 x hx _ (List.mem_singleton.2 rfl)
    simp only at this ⊢; omega
/-- another stop -/
theorem EInv.anew {l : List BE} {last cnt : Int} (h : EInv l last cnt) {t : Int} (h0 : 0 ≤ last) (ht : last + 1 < t) (h1 : t ≤ 100000) : EInv ((l ++ [((60 * (t - 1), 3, 0) : BE)]) ++ [((60 * t, 4, 0) : BE)]) t (cnt + 1) := by
  have hv : (toP (valP last cnt, 0, 60 * last, false) (60 * (t - 1))).1 = valP t (cnt + 1) := by
    simp only [toP, valP, Bool.false_eq_true, if_false]; omega
  have hf : (l ++ [((60 * (t - 1), 3, 0) : BE)]).foldl doP c0P = (valP t (cnt + 1), 0, 60 * (t - 1), true) := by
    rw [List.foldl_append, h.fold, List.foldl_cons, List.foldl_nil, doP_stop, hv]
  refine ⟨?_, fun q => by simp at q, fun _ => ⟨_, _, rfl, hf⟩, fun x hx => ?_, ?_⟩
  · rw [List.foldl_append, hf, List.foldl_cons, List.foldl_nil, doP_go]
  · rcases List.mem_append.1 hx with hx | hx
    · rcases List.mem_append.1 hx with hx | hx
      · have := h.ok x hx; exact ⟨this.1, by omega⟩
      · rw [List.mem_singleton] at hx; subst hx; exact ⟨⟨by simp only; omega, .inr (.inr (.inl ⟨rfl, rfl⟩))⟩, by simp only; omega⟩
    · rw [List.mem_singleton] at hx; subst hx; exact ⟨⟨by simp only; omega, .inr (.inr (.inr ⟨rfl, rfl⟩))⟩, by simp⟩
  · rw [List.pairwise_append, List.pairwise_append]
    refine ⟨⟨h.asc, List.pairwise_singleton _ _, fun x hx y hy => ?_⟩, List.pairwise_singleton _ _, fun x hx y hy => ?_⟩
    · rw [List.mem_singleton] at hy; subst hy
      have := (h.ok x hx).2; simp only; omega
    · rw [List.mem_singleton] at hy; subst hy
      rcases List.mem_append.1 hx with hx | hx
      · have := (h.ok x hx).2; simp only; omega
      · rw [List.mem_singleton] at hx; subst hx; simp only; omega
theorem adj_lost : ∀ (fs : List PF), (∀ f ∈ fs, f.2 = 1) → adjP fs = -(fs.length : Int) := by
  intro fs
  induction fs with
  | nil => intro _; rfl
  | cons f r ih =>
    intro h
    have h1 := h f List.mem_cons_self
    have h2 := ih fun z hz => h z (List.mem_cons_of_mem _ hz)
    simp only [adjP, List.map_cons, List.sum_cons, h1, if_true, List.length_cons] at h2 ⊢
    omega
theorem ev_PulseBook_j2 {fr many : Int} (hfr : 0 ≤ fr ∧ fr ≤ 65535) (hm : 0 ≤ many ∧ many ≤ 255) {l8 : List BE} {l9 : List PF} {last : Int} (hI : EInv l8 last (l9.length : Int)) (hlast : last ≤ fr % 50000 + 1 + many) (hF : OkFs (fr % 50000 + 1) (fr % 50000 + 1 + many) l9) (hk : ∀ f ∈ l9, f.2 = 1) (hlen : l8.length ≤ 2 * l9.length) :
    ev_top_TopPulseBook_j2 6100 fr many l8 l9 = some true := by
  have hl9 := hF.len
  have e1 : Int.tmod fr 50000 = fr % 50000 := Int.tmod_eq_emod_of_nonneg hfr.1
  obtain ⟨st, hst⟩ : ∃ st, st = fr % 50000 + 1 := ⟨_, rfl⟩
  have e2 : Int.tmod st 720 = st % 720 := Int.tmod_eq_emod_of_nonneg (by omega)
  rw [← hst] at hlast hF
  have hR := ev_Run (n := 6100) (by decide) (sh := st % 720) (by omega) (from_ := st) (until_ := st + many) (by omega) (by omega) hF
  rw [adj_lost l9 hk] at hR
  have hv : (st % 720 + (st + many - st) + -(l9.length : Int)) % 720 = (st + many - (l9.length : Int)) % 720 := by omega
  rw [hv] at hR
  have hR' : ev_pulse_Run 6100 0 0 0 (st % 720) st ([] ++ l9) (st + many) = some ((st + many - (l9.length : Int)) % 720, 0) := hR
  have hes : OkEs l8 := ⟨fun x hx => (hI.ok x hx).1, hI.asc, by omega⟩
  have hH := ev_Hands (n := 6100) hes (t := 60 * (st + many)) (by omega) (by omega) (by decide)
  rw [hI.hands hlast] at hH
  rw [ev_top_TopPulseBook_j2, chk_of (room_iff.2 (by simp; omega))]
  simp only [e1, ← hst, e2]
  rw [bind_of hR', chk_of (in64_of (by omega)), bind_of hH, cond_if, if_pos (by rfl), cond_if, if_pos (by rfl), chk_of (in64_of (by omega)), cond_if, if_pos (by simp), bind_of pubPulseP_ev, cond_if, if_pos rfl, bind_of pubBookP_ev]
theorem ev_PulseBook_l0 {fr many : Int} (hfr : 0 ≤ fr ∧ fr ≤ 65535) (hm : 0 ≤ many ∧ many ≤ 255) {by_ : List Int} (hb : ∀ x ∈ by_, 0 ≤ x ∧ x ≤ 255) (hbl : by_.length ≤ 9223372036854775807) : ∀ (m i : Nat) (at_ last : Int) (l8 : List BE) (l9 : List PF), 20 - l9.length < m → i = l9.length → EInv l8 last (l9.length : Int) → 0 ≤ last → last ≤ at_ → fr % 50000 + 1 ≤ at_ → at_ ≤ fr % 50000 + 1 + many →
    (l8 ≠ [] → last = at_) → OkFs (fr % 50000 + 1) (fr % 50000 + 1 + many) l9 → (∀ f ∈ l9, f.2 = 1 ∧ f.1 ≤ at_) → l8.length ≤ 2 * l9.length → ev_top_TopPulseBook_l0 6100 fr many m at_ last (i : Int) by_ l8 l9 = some true := by
  intro m
  induction m with
  | zero => intro i at_ last l8 l9 h; omega
  | succ m ih =>
    intro i at_ last l8 l9 hm1 hi hI h0 hla ha0 ha1 hne hF hk hlen
    have hl9 := hF.len
    have hj2 := ev_PulseBook_j2 hfr hm hI (by omega) hF (fun f hf => (hk f hf).1) hlen
    have e1 : Int.tmod fr 50000 = fr % 50000 := Int.tmod_eq_emod_of_nonneg hfr.1
    rw [ev_top_TopPulseBook_l0, cond_if]
    by_cases hlt : i < by_.length
    · rw [if_pos (by simp; omega), cond_if]
      by_cases h20 : l9.length < 20
      · rw [if_pos (by simp; omega)]
        obtain ⟨x, hx⟩ : ∃ x, x = by_[i] := ⟨_, rfl⟩
        have hget : by_[i]? = some x := by rw [hx, List.getElem?_eq_getElem hlt]
        have hxb := hb x (List.mem_of_getElem? hget)
        have e2 : Int.tmod x 20 = x % 20 := Int.tmod_eq_emod_of_nonneg hxb.1
        rw [ev_top_TopPulseBook_j1, idx_nat hget]
        simp only [e1, e2]
        obtain ⟨t, ht⟩ : ∃ t, t = at_ + (1 + x % 20) := ⟨_, rfl⟩
        rw [← ht, chk_of (in64_of (by omega)), chk_of (in64_of (by omega)), chk_of (in64_of (by omega)), cond_if]
        by_cases hu : fr % 50000 + 1 + many < t
        · rw [if_pos (by simpa using hu)]; exact hj2
        · rw [if_neg (by simpa using hu), chk_of (room_iff.2 (by simp; omega)), cond_if]
          have hF' : OkFs (fr % 50000 + 1) (fr % 50000 + 1 + many) (l9 ++ [((t, 1) : PF)]) := by
            refine ⟨fun f hf => ?_, ?_, by simp; omega⟩
            · rcases List.mem_append.1 hf with hf | hf
              · exact hF.ok f hf
              · rw [List.mem_singleton] at hf; subst hf; exact ⟨by simp only; omega, by simp only; omega, .inl rfl⟩
            · rw [List.pairwise_append]
              refine ⟨hF.asc, List.pairwise_singleton _ _, fun a ha b hb' => ?_⟩
              rw [List.mem_singleton] at hb'; subst hb'
              have := (hk a ha).2; simp only; omega
          have hk' : ∀ f ∈ l9 ++ [((t, 1) : PF)], f.2 = 1 ∧ f.1 ≤ t := fun f hf => by
            rcases List.mem_append.1 hf with hf | hf
            · have := hk f hf; exact ⟨this.1, by omega⟩
            · rw [List.mem_singleton] at hf; subst hf; exact ⟨rfl, by simp⟩
          have hlc : ((l9 ++ [((t, 1) : PF)]).length : Int) = (l9.length : Int) + 1 := by simp
          have hnext : ∀ l' : List BE, EInv l' t ((l9.length : Int) + 1) → l'.length ≤ 2 * l9.length + 2 → chk (in64 ((i : Int) + 1)) (ev_top_TopPulseBook_l0 6100 fr many m t t ((i : Int) + 1) by_ l' (l9 ++ [((t, 1) : PF)])) = some true := fun l' h1 h2 => by
            rw [chk_of (in64_of (by omega))]
            exact ih (i + 1) t t l' (l9 ++ [(t, 1)]) (by simp; omega) (by simp; omega) (by rw [hlc]; exact h1) (by omega) (Int.le_refl _) (by omega) (by omega) (fun _ => rfl) hF' hk' (by simp; omega)
          have hanew : last + 1 < t → chk (in64 (t - 1)) (chk (in64 ((60 : Int) * (t - 1))) <| chk (room 24 (l8.length + ([(((60 : Int) * (t - 1)), 3, 0)] : List (Int × Int × Int)).length)) <| chk (in64 ((60 : Int) * t)) <| chk (room 24 ((l8 ++ ([(((60 : Int) * (t - 1)), 3, 0)] : List (Int × Int × Int))).length + ([(((60 : Int) * t), 4, 0)] : List (Int × Int × Int)).length)) <| chk (in64 ((i : Int) + 1)) <| ev_top_TopPulseBook_l0 6100 fr many m t t ((i : Int) + 1) by_ ((l8 ++ ([(((60 : Int) * (t - 1)), 3, 0)] : List (Int × Int × Int))) ++ ([(((60 : Int) * t), 4, 0)] : List (Int × Int × Int))) (l9 ++ ([(t, 1)] : List (Int × Int)))) = some true := fun h => by
            rw [chk_of (in64_of (by omega)), chk_of (in64_of (by omega)), chk_of (room_iff.2 (by simp; omega)), chk_of (in64_of (by omega)), chk_of (room_iff.2 (by simp; omega))]
            exact hnext _ (hI.anew h0 h (by omega)) (by simp; omega)
          by_cases he : l8 = []
          · have hz := hI.nil he
            rw [if_neg (by simp [he])]
            exact hanew (by omega)
          · have hpos : 0 < l8.length := List.length_pos_iff.2 he
            rw [if_pos (by simp; omega), chk_of (in64_of (by omega)), cond_if]
            by_cases hon : last = t - 1
            · have etn : (((l8.length : Int) - 1)).toNat = l8.length - 1 := by omega
              rw [if_pos (by simpa using hon), chk_of (in64_of (by omega)), chk_of (by simp; omega), etn, chk_of (in64_of (by omega)), chk_of (room_iff.2 (by simp; omega))]
              have := hI.on he h0 (by omega)
              rw [show last + 1 = t by omega] at this
              exact hnext _ this (by simp; omega)
            · rw [if_neg (by simpa using hon)]
              exact hanew (by have := hne he; omega)
      · rw [if_neg (by simp; omega)]; exact hj2
    · rw [if_neg (by simp; omega)]; exact hj2
theorem topPulseBook_evx {from_1 : Int} {many2 : Int} {by_3 : List Int} (h0 : (Lit.int .u16 from_1).wf = true) (h1 : (Lit.int .u8 many2).wf = true) (h2 : (by_3.length ≤ maxLen ∧ ∀ el5 ∈ by_3, (Lit.int .u8 el5).wf = true)) :
    ∃ n, ev_top_TopPulseBook n from_1 many2 by_3 = some true := by
  have w0 : 0 ≤ from_1 ∧ from_1 ≤ 65535 := by
    simpa only [Lit.wf, Bool.and_eq_true, decide_eq_true_eq, show IntKind.u16.min = 0 from rfl, show IntKind.u16.max = 65535 from rfl] using h0
  have w1 := wf8.1 h1
  have e1 : Int.tmod from_1 50000 = from_1 % 50000 := Int.tmod_eq_emod_of_nonneg w0.1
  refine ⟨6100, ?_⟩
  rw [ev_top_TopPulseBook, e1, chk_of (in64_of (by omega)), chk_of (in64_of (by omega)), chk_of (in64_of (by omega)), chk_of (in64_of (by omega))]
  exact ev_PulseBook_l0 w0 w1 (fun x hx => wf8.1 (h2.2 x hx)) (Nat.le_trans h2.1 (by decide)) 6100 0 (from_1 % 50000 + 1) 0 [] [] (by simp) rfl ⟨by simp [c0P, valP], fun _ => ⟨rfl, rfl⟩, fun h => absurd rfl h, by simp, List.Pairwise.nil⟩ (by omega) (by omega) (by omega) (by omega) (fun h => absurd rfl h) ⟨by simp, List.Pairwise.nil, by simp⟩ (by simp) (by simp)
end Go.Proofs.Ytmgcinejodpopaa.Sy
