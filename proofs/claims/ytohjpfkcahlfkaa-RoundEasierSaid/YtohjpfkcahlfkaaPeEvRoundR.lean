/- Rounds: the fewest winders; all ways to share a set of towers. -/
import Derived.Test.YtohjpfkcahlfkaaPeEvRoundP
import Derived.Test.YtohjpfkcahlfkaaPeEvRoundL
set_option linter.unusedSimpArgs false
set_option linter.unusedVariables false
namespace Go.Proofs.Ytohjpfkcahlfkaa.Sy
open Go.RowKit
set_option maxRecDepth 100000
def minusP (s p : Int) : Int := ((s.toNat &&& (255 ^^^ p.toNat) : Nat) : Int)
abbrev Memo := List ((Int × Int) × (Int × List Int × Int × Bool))
abbrev Ac := Option Shr
def BstW (t : List Tw) (w : List (List Int)) (g : List Wd) (rest : Int) (x part : Int) (res : Bo) : Prop := ∃ wd, g[x.toNat]? = some wd ∧ Bst (fun s m => candP t w rest wd part false (beginP t) s m) res
def MemoOk (t : List Tw) (w : List (List Int)) (g : List Wd) (rest : Int) (o : Memo) : Prop := ∀ x part v, mlook o (x, part) = some v → ∃ res, v = (part, (stB res).1, (stB res).2.1, (stB res).2.2) ∧ BstW t w g rest x part res
inductive ShC (t : List Tw) (w : List (List Int)) (g : List Wd) (rest : Int) : Int → Int → List Trp → Int → Prop where
  | done (x : Int) : ShC t w g rest x 0 [] 0
  | skip {x goal : Int} {ts : List Trp} {m : Int} : x < g.length → goal ≠ 0 → ShC t w g rest (x + 1) goal ts m → ShC t w g rest x goal ts m
  | take {x goal part : Int} {l : List Int} {m1 : Int} {ts : List Trp} {m : Int} : x < g.length → goal ≠ 0 → 0 < part ∧ part < 256 → part.toNat &&& goal.toNat = part.toNat → BstW t w g rest x part (some (l, m1)) → ShC t w g rest (x + 1) (minusP goal part) ts m → ShC t w g rest x goal ((x, l) :: ts) (m1 + m)
structure OkLe (Le : Shr → Shr → Prop) : Prop where
  rfl : ∀ a, Le a a
  trans : ∀ a b c, Le a b → Le b c → Le a c
  lt : ∀ a b, OkS a → OkS b → ltS a b → Le a b
  ge : ∀ a b, OkS a → OkS b → ¬ ltS a b → Le b a
def ShOk (Le : Shr → Shr → Prop) (C : Shr → Prop) (acc r : Ac) : Prop := (r = acc ∨ ∃ c, C c ∧ r = some c) ∧ (∀ c, C c → ∃ s, r = some s ∧ Le s c) ∧ (∀ a, acc = some a → ∃ s, r = some s ∧ Le s a)
def OkA (r : Ac) : Prop := ∀ a, r = some a → OkS a
theorem ShOk.none {Le : Shr → Shr → Prop} (hL : OkLe Le) {C : Shr → Prop} {acc : Ac} (h : ∀ c, ¬ C c) : ShOk Le C acc acc := ⟨.inl rfl, fun c hc => absurd hc (h c), fun a ha => ⟨a, ha, hL.rfl a⟩⟩
theorem ShOk.congr {Le : Shr → Shr → Prop} {C C' : Shr → Prop} {acc r : Ac} (h : ShOk Le C acc r) (e : ∀ c, C c ↔ C' c) : ShOk Le C' acc r :=
  ⟨h.1.elim .inl fun ⟨c, hc, hr⟩ => .inr ⟨c, (e c).1 hc, hr⟩, fun c hc => h.2.1 c ((e c).2 hc), h.2.2⟩
theorem ShOk.comp {Le : Shr → Shr → Prop} (hL : OkLe Le) {C1 C2 : Shr → Prop} {acc r1 r2 : Ac} (h1 : ShOk Le C1 acc r1) (h2 : ShOk Le C2 r1 r2) : ShOk Le (fun c => C1 c ∨ C2 c) acc r2 := by
  refine ⟨?_, fun c hc => ?_, fun a ha => ?_⟩
  · rcases h2.1 with e | ⟨c, hc, e⟩
    · rcases h1.1 with e1 | ⟨c, hc, e1⟩
      · exact .inl (e.trans e1)
      · exact .inr ⟨c, .inl hc, e.trans e1⟩
    · exact .inr ⟨c, .inr hc, e⟩
  · rcases hc with hc | hc
    · obtain ⟨s, hs, hle⟩ := h1.2.1 c hc;obtain ⟨s2, hs2, hle2⟩ := h2.2.2 s hs;exact ⟨s2, hs2, hL.trans _ _ _ hle2 hle⟩
    · exact h2.2.1 c hc
  · obtain ⟨s, hs, hle⟩ := h1.2.2 a ha;obtain ⟨s2, hs2, hle2⟩ := h2.2.2 s hs;exact ⟨s2, hs2, hL.trans _ _ _ hle2 hle⟩
def acB (r : Ac) : Bool × List Trp × Int := match r with
  | none => (false, [], 0)
  | some s => (true, s.1, s.2)
theorem visit_ev {n : Nat} (hn : 200 < n) {Le : Shr → Shr → Prop} (hL : OkLe Le) {c : Shr} (hc : OkS c) {acc : Ac} (ha : OkA acc) : ∃ r, ev_round_Fewest_1_v1 n c.1 c.2 (acB acc).1 (acB acc).2.1 (acB acc).2.2 = some (acB r) ∧ ShOk Le (fun d => d = c) acc r ∧ OkA r := by
  cases acc with
  | none => exact ⟨some c, rfl, ⟨.inr ⟨c, rfl, rfl⟩, fun d hd => ⟨c, rfl, hd ▸ hL.rfl c⟩, fun a ha => by cases ha⟩, fun a h => by cases h; exact hc⟩
  | some a =>
    have hoa := ha a rfl;have e := share_ev hn hc hoa;have hstep : ev_round_Fewest_1_v1 n c.1 c.2 (acB (some a)).1 (acB (some a)).2.1 (acB (some a)).2.2 = cond (decide (sgnS c a < 0)) (some (true, c.1, c.2)) (some (true, a.1, a.2)) := by
      rw [ev_round_Fewest_1_v1];show cond (!true) _ ((ev_round_share_compare n c.1 c.2 a.1 a.2).bind _) = _;rw [cond_if, if_neg (by simp), bind_of e]
      rfl
    by_cases h : ltS c a
    · refine ⟨some c, by rw [hstep, cond_if, if_pos (decide_eq_true (show sgnS c a < 0 from h))]; rfl, ⟨.inr ⟨c, rfl, rfl⟩, fun d hd => ⟨c, rfl, hd ▸ hL.rfl c⟩, fun b hb => ?_⟩, fun b hb => by cases hb; exact hc⟩;cases hb;exact ⟨c, rfl, hL.lt c a hc hoa h⟩
    · refine ⟨some a, by rw [hstep, cond_if, if_neg (fun e => h (show sgnS c a < 0 from of_decide_eq_true e))]; rfl, ⟨.inl rfl, fun d hd => ⟨a, rfl, hd ▸ hL.ge c a hc hoa h⟩, fun b hb => ⟨b, hb, hL.rfl b⟩⟩, ha⟩
theorem parts_loop {σ : Type} {n : Nat} (hn : 300 < n) {Le : Shr → Shr → Prop} (hL : OkLe Le) {OkM : Memo → Prop} {f : (Int × Int) → σ → Option (Nat × σ)} {S : Memo → Ac → σ} {C : Int → Shr → Prop} {s : Int} (hs : 0 ≤ s ∧ s < 256)
    (hstep : ∀ p ∈ partsL 257 s s, ∀ o acc, OkM o → OkA acc → ∃ o' r, f (p, minusP s p) (S o acc) = some (0, S o' r) ∧ OkM o' ∧ ShOk Le (C p) acc r ∧ OkA r) :
    ∀ o acc, OkM o → OkA acc → ∃ o' r, ev_round_set_parts (loopStep f) n s (S o acc, 0) = some (S o' r, 0) ∧ OkM o' ∧ ShOk Le (fun c => ∃ p ∈ partsL 257 s s, C p c) acc r ∧ OkA r := by
  have key : ∀ (k m : Nat) (p : Int) (o : Memo) (acc : Ac), p.toNat < k → (∀ q ∈ partsL k s p, q ∈ partsL 257 s s) → k < m → OkM o → OkA acc →
      ∃ o' r, ev_round_set_parts_l0 (loopStep f) n s m p (S o acc, 0) = some (S o' r, 0) ∧ OkM o' ∧ ShOk Le (fun c => ∃ q ∈ partsL k s p, C q c) acc r ∧ OkA r := by
    intro k
    induction k with
    | zero => intro m p o acc hne; omega
    | succ k ih =>
      intro m p o acc hk hsub hm ho ha;obtain ⟨m, rfl⟩ : ∃ m', m = m' + 1 := ⟨m - 1, by omega⟩;have hpm := hsub p (by rw [partsL]; exact List.Mem.head _);obtain ⟨l1, l2, l3⟩ := parts_low hs p hpm;obtain ⟨o1, r1, e1, h1, h2, h3⟩ := hstep p hpm o acc ho ha;rw [ev_round_set_parts_l0, l3];have e1' : f (p, ((s.toNat &&& (255 ^^^ p.toNat) : Nat) : Int)) (S o acc) = some (0, S o1 r1) := e1;rw [bind_of (loopStep_of e1'), cond_if, if_pos (by simp), cond_if]
      by_cases hp : 0 < p
      · have hn2 := next_lt hs ⟨hp, l2⟩;obtain ⟨o2, r2, e2, g1, g2, g3⟩ := ih m (nextP s p) o1 r1 (by omega) (fun q hq => hsub q (by rw [partsL, if_pos hp]; exact List.mem_cons_of_mem _ hq)) (by omega) h1 h3;rw [if_pos (decide_eq_true hp), chk_of (in64_of (by omega))];refine ⟨o2, r2, e2, g1, (h2.comp hL g2).congr fun c => ?_, g3⟩;rw [partsL, if_pos hp]
        constructor
        · rintro (hc | ⟨q, hq, hc⟩)
          · exact ⟨p, List.Mem.head _, hc⟩
          · exact ⟨q, List.mem_cons_of_mem _ hq, hc⟩
        · rintro ⟨q, hq, hc⟩
          rcases List.mem_cons.1 hq with rfl | hq
          · exact .inl hc
          · exact .inr ⟨q, hq, hc⟩
      · rw [if_neg (by simpa using hp)];refine ⟨o1, r1, rfl, h1, h2.congr fun c => ?_, h3⟩;rw [partsL, if_neg hp];exact ⟨fun hc => ⟨p, List.Mem.head _, hc⟩, fun ⟨q, hq, hc⟩ => by
          rw [List.mem_singleton] at hq; subst hq; exact hc⟩
  intro o acc ho ha;rw [ev_round_set_parts];exact key 257 n s o acc (by omega) (fun q hq => hq) (by omega) ho ha
section
variable {t : List Tw} {w : List (List Int)} {g : List Wd} {rest wage : Int} (h : OkR t w g rest wage)
include h in
theorem office_ev {n : Nat} (hn : 300 < n) {o : Memo} (ho : MemoOk t w g rest o) {x part : Int} (hx : 0 ≤ x ∧ x < g.length) (hp : 0 ≤ part ∧ part < 256) :
    ∃ res o', ev_p_round_office_best n t w g rest wage o x part = some (part, (stB res).1, (stB res).2.1, (stB res).2.2, o') ∧ MemoOk t w g rest o' ∧ BstW t w g rest x part res := by
  rw [ev_p_round_office_best]
  cases hl : mlook o (x, part) with
  | some v =>
    obtain ⟨res, rfl, hb⟩ := ho x part v hl;exact ⟨res, o, rfl, ho, hb⟩
  | none =>
    obtain ⟨wd, hwd, hm, hs⟩ := start_ev (t := t) (w := w) (rest := rest) (wage := wage) (n := n) hx;obtain ⟨res, e, x1⟩ := try_ok h hm hp n (beginP t) false [] (by
      have e := begin_meas t
      omega) begin_ok (.inl ⟨rfl, rfl⟩) (by
      have e := begin_meas t;rw [e]; decide) none
    have hb : BstW t w g rest x part res := ⟨wd, hwd, x1.bst.congr fun s m => ⟨fun ⟨s', e, hc⟩ => by
      rw [List.nil_append] at e; rw [e]; exact hc, fun hc => ⟨s, rfl, hc⟩⟩⟩
    refine ⟨res, mput o (x, part) (part, (stB res).1, (stB res).2.1, (stB res).2.2), ?_, fun x' part' v hv => ?_, hb⟩
    · show Option.bind _ _ = _;rw [bind_of hs];exact bind_of e
    · rw [mlook_put] at hv
      split at hv
      · rename_i he
        have he : (x, part) = (x', part') := by simpa using he
        cases he;cases hv;exact ⟨res, rfl, hb⟩
      · exact ho x' part' v hv
include h in
theorem bstw_len {x part : Int} {l : List Int} {m : Int} (hb : BstW t w g rest x part (some (l, m))) : l.length ≤ 17 ∧ 0 ≤ m ∧ m ≤ 1440 := by
  obtain ⟨wd, hwd, hb⟩ := hb;have hm := List.mem_of_getElem? hwd;have h1 := cand_len h hm l _ _ _ begin_ok hb.1;rw [begin_meas] at h1;have h2 := cand_min h hm l _ _ _ begin_ok hb.1;refine ⟨h1, h2, ?_⟩;have : ∀ (l : List Int) (r : Bool) (σ : Wk), OkW t σ → candP t w rest wd part r σ l m → m ≤ 1440 := by
    intro l
    induction l with
    | nil => intro r σ hσ hc; rw [hc.2.2]; exact (home_ok h hm hσ hc.2.1).2.2
    | cons s l ih => intro r σ hσ hc; exact ih _ _ (step_ok h hm hσ hc.2.1).1 hc.2.2
  exact this l _ _ begin_ok hb.1
structure OkN (x : Int) (now : List Trp) (m : Int) : Prop where
  len : (now.length : Int) ≤ x
  st : ∀ y ∈ now, y.2.length ≤ 17
  m0 : 0 ≤ m
  m1 : m ≤ 1440 * x
theorem OkN.s {x : Int} {now : List Trp} {m : Int} (h : OkN x now m) (hx : x ≤ 10) : OkS (now, m) := ⟨by have := h.len; show now.length ≤ 100; omega, fun y hy => by have := h.st y hy; omega⟩
theorem minus_ok {s p : Int} (hs : 0 ≤ s ∧ s < 256) : 0 ≤ minusP s p ∧ minusP s p < 256 := by
  unfold minusP;have : s.toNat &&& (255 ^^^ p.toNat) ≤ s.toNat := Nat.and_le_left
  omega
theorem minus_zero_all : ((List.range 256).all fun s => decide (minusP (s : Int) 0 = s)) = true := by decide +kernel
theorem minus_zero {s : Int} (hs : 0 ≤ s ∧ s < 256) : minusP s 0 = s := by
  obtain ⟨a, rfl⟩ : ∃ a : Nat, s = a := ⟨s.toNat, by omega⟩;exact of_decide_eq_true (List.all_eq_true.1 minus_zero_all a (List.mem_range.2 (by omega)))
def PartC (t : List Tw) (w : List (List Int)) (g : List Wd) (rest : Int) (x goal : Int) (now : List Trp) (m : Int) (p : Int) (c : Shr) : Prop :=
  ∃ ts m', c = (now ++ ts, m + m') ∧ ((p = 0 ∧ ShC t w g rest (x + 1) goal ts m') ∨ (0 < p ∧ ∃ l m1 ts' m2, ts = (x, l) :: ts' ∧ m' = m1 + m2 ∧ BstW t w g rest x p (some (l, m1)) ∧ ShC t w g rest (x + 1) (minusP goal p) ts' m2))
theorem part_iff {x goal : Int} (hx : 0 ≤ x ∧ x < g.length) (hg : 0 ≤ goal ∧ goal < 256) (h0 : goal ≠ 0) {now : List Trp} {m : Int} {c : Shr} :
    (∃ p ∈ partsL 257 goal goal, PartC t w g rest x goal now m p c) ↔ ∃ ts m', c = (now ++ ts, m + m') ∧ ShC t w g rest x goal ts m' := by
  constructor
  · rintro ⟨p, hp, ts, m', rfl, hh⟩
    obtain ⟨⟨p0, p1⟩, p2⟩ := (parts_iff hg).1 hp;refine ⟨ts, m', rfl, ?_⟩;rcases hh with ⟨_, hc⟩ | ⟨hp0, l, m1, ts', m2, rfl, rfl, hb, hc⟩
    · exact .skip hx.2 h0 hc
    · exact .take hx.2 h0 ⟨hp0, p1⟩ p2 hb hc
  · rintro ⟨ts, m', rfl, hc⟩
    cases hc with
    | done => exact absurd rfl h0
    | skip _ _ hc => exact ⟨0, (parts_iff hg).2 ⟨by decide, by simp⟩, ts, m', rfl, .inl ⟨rfl, hc⟩⟩
    | @take _ _ part l m1 ts' m2 _ _ hp1 hp2 hb hc => exact ⟨part, (parts_iff hg).2 ⟨⟨by omega, hp1.2⟩, hp2⟩, _, _, rfl, .inr ⟨hp1.1, l, m1, ts', m2, rfl, rfl, hb, hc⟩⟩
end
end Go.Proofs.Ytohjpfkcahlfkaa.Sy
