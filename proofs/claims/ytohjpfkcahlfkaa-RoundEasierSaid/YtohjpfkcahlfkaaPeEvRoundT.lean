/- Rounds: the shares of a set, all of them; what Fewest answers. -/
import Derived.Test.YtohjpfkcahlfkaaPeEvRoundR
set_option linter.unusedSimpArgs false
set_option linter.unusedVariables false
namespace Go.Proofs.Ytohjpfkcahlfkaa.Sy
open Go.RowKit
set_option maxRecDepth 100000
section
variable {t : List Tw} {w : List (List Int)} {g : List Wd} {rest wage : Int} (h : OkR t w g rest wage) {Le : Shr → Shr → Prop} (hL : OkLe Le)
def ShAll (t : List Tw) (w : List (List Int)) (g : List Wd) (rest : Int) (x goal : Int) (now : List Trp) (m : Int) (c : Shr) : Prop := ∃ ts m', c = (now ++ ts, m + m') ∧ ShC t w g rest x goal ts m'
include h hL in
theorem shares_step {x goal : Int} (hx : 0 ≤ x ∧ x < g.length) (hg : 0 ≤ goal ∧ goal < 256) {now : List Trp} {m : Int} (hnow : OkN x now m) {n : Nat} (hn : 300 < n)
    {σ : Type} {f : (Int × Int) → σ → Option (Nat × σ)} {S : Memo → Ac → σ} {p : Int} (hp : p ∈ partsL 257 goal goal)
    (hrec : ∀ now' m' o acc, OkN (x + 1) now' m' → MemoOk t w g rest o → OkA acc → ∃ o' r, ev_p_round_office_shares n t w g rest wage o (x + 1) (minusP goal p) now' m' (acB acc).1 (acB acc).2.1 (acB acc).2.2 = some (o', acB r) ∧ MemoOk t w g rest o' ∧ ShOk Le (ShAll t w g rest (x + 1) (minusP goal p) now' m') acc r ∧ OkA r)
    (hf0 : p = 0 → ∀ o acc o' r, ev_p_round_office_shares n t w g rest wage o (x + 1) (minusP goal p) now m (acB acc).1 (acB acc).2.1 (acB acc).2.2 = some (o', acB r) → f (p, minusP goal p) (S o acc) = some (0, S o' r))
    (hfn : 0 < p → ∀ o acc o', ev_p_round_office_best n t w g rest wage o x p = some (p, [], 0, false, o') → f (p, minusP goal p) (S o acc) = some (0, S o' acc))
    (hf1 : 0 < p → ∀ o acc o1 l m1 o' r, l.length ≤ 17 → 0 ≤ m1 → m1 ≤ 1440 → ev_p_round_office_best n t w g rest wage o x p = some (p, l, m1, true, o1) → ev_p_round_office_shares n t w g rest wage o1 (x + 1) (minusP goal p) (now ++ [(x, l)]) (m + m1) (acB acc).1 (acB acc).2.1 (acB acc).2.2 = some (o', acB r) → f (p, minusP goal p) (S o acc) = some (0, S o' r)) :
    ∀ o acc, MemoOk t w g rest o → OkA acc → ∃ o' r, f (p, minusP goal p) (S o acc) = some (0, S o' r) ∧ MemoOk t w g rest o' ∧ ShOk Le (PartC t w g rest x goal now m p) acc r ∧ OkA r := by
  intro o acc ho ha;obtain ⟨⟨p0, p1⟩, p2⟩ := (parts_iff hg).1 hp
  by_cases hp0 : p = 0
  · obtain ⟨o', r, e, h1, h2, h3⟩ := hrec now m o acc ⟨by have := hnow.len; omega, hnow.st, hnow.m0, by have := hnow.m1; omega⟩ ho ha;refine ⟨o', r, hf0 hp0 o acc o' r e, h1, h2.congr fun c => ?_, h3⟩;subst hp0;rw [minus_zero hg]
    constructor
    · rintro ⟨ts, m', rfl, hc⟩; exact ⟨ts, m', rfl, .inl ⟨rfl, hc⟩⟩
    · rintro ⟨ts, m', rfl, ⟨_, hc⟩ | ⟨hz, _⟩⟩
      · exact ⟨ts, m', rfl, hc⟩
      · omega
  · have hpp : 0 < p := by omega
    obtain ⟨res, o1, e1, ho1, hb⟩ := office_ev h hn ho hx ⟨p0, p1⟩;have huniq : ∀ res', BstW t w g rest x p res' → res' = res := fun res' hb' => by
      obtain ⟨wd, hw1, hb1⟩ := hb;obtain ⟨wd', hw2, hb2⟩ := hb';obtain rfl := Option.some.inj (hw1.symm.trans hw2);exact hb2.uniq hb1
    cases res with
    | none =>
      refine ⟨o1, acc, hfn hpp o acc o1 e1, ho1, ShOk.none hL fun c => ?_, ha⟩
      rintro ⟨ts, m', _, ⟨hz, _⟩ | ⟨_, l, m1, ts', m2, _, _, hb', _⟩⟩
      · exact hp0 hz
      · cases huniq _ hb'
    | some a =>
      obtain ⟨l, m1⟩ := a;obtain ⟨b1, b2, b3⟩ := bstw_len h hb;obtain ⟨o', r, e, h1, h2, h3⟩ := hrec (now ++ [(x, l)]) (m + m1) o1 acc ⟨by have := hnow.len; rw [List.length_append]; simp; omega, fun y hy => by
        rcases List.mem_append.1 hy with hy | hy
        · exact hnow.st y hy
        · rw [List.mem_singleton] at hy; rw [hy]; exact b1, by have := hnow.m0; omega, by have := hnow.m1; omega⟩ ho1 ha
      refine ⟨o', r, hf1 hpp o acc o1 l m1 o' r b1 b2 b3 e1 e, h1, h2.congr fun c => ?_, h3⟩
      constructor
      · rintro ⟨ts, m', rfl, hc⟩
        refine ⟨(x, l) :: ts, m1 + m', ?_, .inr ⟨hpp, l, m1, ts, m', rfl, rfl, hb, hc⟩⟩;rw [List.append_assoc, Int.add_assoc]; rfl
      · rintro ⟨ts, m', rfl, ⟨hz, _⟩ | ⟨_, l', m1', ts', m2, rfl, rfl, hb', hc⟩⟩
        · exact absurd hz hp0
        · have := Option.some.inj (huniq _ hb');cases this
          refine ⟨ts', m2, ?_, hc⟩;rw [List.append_assoc, Int.add_assoc]; rfl
include h hL in
theorem shares_ev : ∀ (n : Nat) (x goal : Int) (now : List Trp) (m : Int) (o : Memo) (acc : Ac), 500 + ((g.length : Int) - x).toNat < n → 0 ≤ x ∧ x ≤ g.length → 0 ≤ goal ∧ goal < 256 → OkN x now m → MemoOk t w g rest o → OkA acc →
    ∃ o' r, ev_p_round_office_shares n t w g rest wage o x goal now m (acB acc).1 (acB acc).2.1 (acB acc).2.2 = some (o', acB r) ∧ MemoOk t w g rest o' ∧ ShOk Le (ShAll t w g rest x goal now m) acc r ∧ OkA r := by
  have hgn := h.gn;intro n
  induction n with
  | zero => intro x goal now m o acc hn; omega
  | succ n ih =>
    intro x goal now m o acc hn hx hg hnow ho ha;rw [ev_p_round_office_shares, cond_if]
    by_cases hg0 : goal = 0
    · obtain ⟨r, e, h1, h2⟩ := visit_ev (n := n) (by omega) hL (c := (now, m)) (hnow.s (by omega)) ha;rw [if_pos (by simpa using hg0), bind_of e];refine ⟨o, r, rfl, ho, h1.congr fun c => ?_, h2⟩;subst hg0
      constructor
      · rintro rfl; exact ⟨[], 0, by rw [List.append_nil, Int.add_zero], .done x⟩
      · rintro ⟨ts, m', rfl, hc⟩
        cases hc with
        | done => rw [List.append_nil, Int.add_zero]
        | skip _ h0 _ => exact absurd rfl h0
        | take _ h0 _ _ _ _ => exact absurd rfl h0
    · rw [if_neg (by simpa using hg0), cond_if]
      by_cases hxg : x = g.length
      · rw [if_pos (by simpa using hxg)];refine ⟨o, acc, rfl, ho, ShOk.none hL fun c => ?_, ha⟩
        rintro ⟨ts, m', _, hc⟩
        cases hc with
        | done => exact hg0 rfl
        | skip h1 _ _ => omega
        | take h1 _ _ _ _ _ => omega
      · have hx2 : 0 ≤ x ∧ x < g.length := by omega
        have h64 : in64 (x + 1) = true := in64_of (by omega);rw [if_neg (by simpa using hxg)];obtain ⟨o', r, e, h1, h2, h3⟩ := parts_loop (n := n) (by omega) hL (OkM := MemoOk t w g rest) (f := ev_p_round_office_shares_r0 n t w g rest wage now (ev_p_round_office_shares n)) (S := fun o acc => (m, x, o, (acB acc).1, (acB acc).2.2, (acB acc).2.1)) (C := PartC t w g rest x goal now m) hg (fun p hp => shares_step h hL hx2 hg hnow (n := n) (by omega) hp
          (fun now' m' o acc hn' ho ha => ih (x + 1) (minusP goal p) now' m' o acc (by omega) (by omega) (minus_ok hg) hn' ho ha)
          (fun hp0 o acc o' r e => by
            rw [ev_p_round_office_shares_r0, cond_if, if_neg (by simp [hp0]), ev_p_round_office_shares_j1, chk_of h64];exact (bind_of e).trans rfl)
          (fun hpp o acc o' e => by
            rw [ev_p_round_office_shares_r0, cond_if, if_pos (decide_eq_true hpp)];refine (bind_of e).trans ?_;rw [cond_if, if_pos (by simp)])
          (fun hpp o acc o1 l m1 o' r b1 b2 b3 e1 e => by
            have hclip : ev_slices_Clip_Lapi_RoundTrip_api_RoundTrip n now = some now := rfl;have hl := hnow.len;have h0 := hnow.m0;have h1 := hnow.m1;rw [ev_p_round_office_shares_r0, cond_if, if_pos (decide_eq_true hpp)];refine (bind_of e1).trans ?_;rw [cond_if, if_neg (by simp), bind_of hclip, chk_of (by rfl), chk_of (room_iff.2 (by simp; omega)), chk_of (in64_of (by dsimp only; omega)), ev_p_round_office_shares_j1, chk_of h64];exact (bind_of e).trans rfl)) o acc ho ha
        refine ⟨o', r, ?_, h1, h2.congr fun c => ?_, h3⟩
        · refine (bind_of e).trans ?_;rw [cond_if, if_pos (by simp)]
        · exact part_iff hx2 hg hg0
include h hL in
theorem shares1_ev {n : Nat} (hn : 600 < n) {goal : Int} (hg : 0 ≤ goal ∧ goal < 256) :
    ∃ o' r, ev_p_round_office_shares_v1 n t w g rest wage [] 0 goal [] 0 false 0 = some (o', acB r) ∧ ShOk Le (ShAll t w g rest 0 goal [] 0) none r ∧ OkA r := by
  have hgn := h.gn;have hmemo : MemoOk t w g rest [] := fun x part v hv => by rw [mlook_nil] at hv; cases hv
  rw [ev_p_round_office_shares_v1, cond_if]
  by_cases hg0 : goal = 0
  · rw [if_pos (by simpa using hg0)];refine ⟨[], some ([], 0), rfl, ?_, fun a ha => by cases ha; exact ⟨by simp, by simp⟩⟩;subst hg0;refine ⟨.inr ⟨([], 0), ⟨[], 0, rfl, .done 0⟩, rfl⟩, fun c hc => ?_, fun a ha => by cases ha⟩;obtain ⟨ts, m', rfl, hc⟩ := hc
    cases hc with
    | done => exact ⟨_, rfl, hL.rfl _⟩
    | skip _ h0 _ => exact absurd rfl h0
    | take _ h0 _ _ _ _ => exact absurd rfl h0
  · have hx2 : (0 : Int) ≤ 0 ∧ (0 : Int) < g.length := by omega
    have hnow : OkN 0 [] 0 := ⟨by decide, fun y hy => (List.not_mem_nil hy).elim, by decide, by decide⟩;rw [if_neg (by simpa using hg0), cond_if, if_neg (by rw [beq_iff_eq]; omega)];obtain ⟨o', r, e, h1, h2, h3⟩ := parts_loop (n := n) (by omega) hL (OkM := MemoOk t w g rest) (f := ev_p_round_office_shares_v1_r0 n t w g rest wage []) (S := fun o acc => ((acB acc).2.1, 0, 0, o, (acB acc).1, (acB acc).2.2)) (C := PartC t w g rest 0 goal [] 0) hg (fun p hp => shares_step h hL hx2 hg hnow (n := n) (by omega) hp
      (fun now' m' o acc hn' ho ha => shares_ev h hL n (0 + 1) (minusP goal p) now' m' o acc (by omega) (by omega) (minus_ok hg) hn' ho ha)
      (fun hp0 o acc o' r e => by
        rw [ev_p_round_office_shares_v1_r0, cond_if, if_neg (by simp [hp0]), ev_p_round_office_shares_v1_j1, chk_of (in64_of (by dsimp only; omega))];exact (bind_of e).trans rfl)
      (fun hpp o acc o' e => by
        rw [ev_p_round_office_shares_v1_r0, cond_if, if_pos (decide_eq_true hpp)];refine (bind_of e).trans ?_;rw [cond_if, if_pos (by simp)])
      (fun hpp o acc o1 l m1 o' r b1 b2 b3 e1 e => by
        have hclip : ev_slices_Clip_Lapi_RoundTrip_api_RoundTrip n [] = some [] := rfl;rw [ev_p_round_office_shares_v1_r0, cond_if, if_pos (decide_eq_true hpp)];refine (bind_of e1).trans ?_;rw [cond_if, if_neg (by simp), bind_of hclip, chk_of (by rfl), chk_of (room_iff.2 (by simp)), chk_of (in64_of (by dsimp only; omega)), ev_p_round_office_shares_v1_j1, chk_of (in64_of (by dsimp only; omega))];exact (bind_of e).trans rfl)) [] none hmemo (fun a ha => by cases ha)
    refine ⟨o', r, ?_, h2.congr fun c => part_iff hx2 hg hg0, h3⟩;refine (bind_of e).trans ?_;rw [cond_if, if_pos (by simp)]
def fewR : Ac → List Trp × Int × Int
  | none => ([], 0, 7)
  | some s => (s.1, s.2, 0)
include h hL in
theorem fewest_ev {n : Nat} (hn : 2000 < n) {l : List Int} (hl : towersP t.length l = 0) :
    ∃ r, ev_round_Fewest n t w g rest wage l = some (fewR r) ∧ ShOk Le (ShAll t w g rest 0 (setP 0 l) [] 0) none r ∧ OkA r := by
  have ht := h.tn;obtain ⟨l5, lr, ln⟩ := towers_iff.1 hl;have hgoal := setP_ok l 0 (by decide) fun x hx => by have := lr x hx; omega
  have hct := checkTowers_ev (n := n) (by omega) (t := t) (w := w) (g := g) (rest := rest) (wage := wage) (by omega) (l := l) (by omega);rw [if_pos hl, hl] at hct;obtain ⟨o', r, e, h1, h2⟩ := shares1_ev h hL (n := n) (by omega) hgoal;refine ⟨r, ?_, h1, h2⟩;rw [ev_round_Fewest, bind_of (check_ev (by omega) h), cond_if, if_neg (by simp), bind_of hct, cond_if, if_neg (by simp)];refine (bind_of e).trans ?_
  cases r with
  | none => rfl
  | some s => rfl
end
end Go.Proofs.Ytohjpfkcahlfkaa.Sy
