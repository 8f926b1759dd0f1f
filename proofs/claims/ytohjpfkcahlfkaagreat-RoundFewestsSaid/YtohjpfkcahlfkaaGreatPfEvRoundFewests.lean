/- RoundFewests: the rounds with the fewest winders are what the document says. -/
import Derived.Test.YtohjpfkcahlfkaaGreatPfEvRoundLs
import Derived.Test.YtohjpfkcahlfkaaGreatPfEvRoundU
import Derived.Test.YtohjpfkcahlfkaaGreatPfEvRoundY
import Derived.Test.YtohjpfkcahlfkaaGreatPfEvRoundTw
import Derived.Test.YtohjpfkcahlfkaaGreatPfGRoundFewests
set_option linter.unusedSimpArgs false
set_option linter.unusedVariables false
namespace Go.Proofs.YtohjpfkcahlfkaaGreat.Sy
open Go.RowKit
set_option maxRecDepth 100000
section
variable {t : List Tw} {w : List (List Int)} {g : List Wd} {rest wage : Int}
inductive LsC (t : List Tw) (w : List (List Int)) (g : List Wd) (rest : Int) (ls : List (List Int)) : Nat → List Trp → Int → Prop where
  | done {x : Nat} : ls.length ≤ x → LsC t w g rest ls x [] 0
  | skip {x : Nat} {ts : List Trp} {m : Int} : ls[x]? = some [] → LsC t w g rest ls (x + 1) ts m → LsC t w g rest ls x ts m
  | take {x : Nat} {l l' : List Int} {m1 : Int} {ts : List Trp} {m : Int} : ls[x]? = some l → l ≠ [] → BstW t w g rest (x : Int) (setP 0 l) (some (l', m1)) → LsC t w g rest ls (x + 1) ts m → LsC t w g rest ls x (((x : Int), l') :: ts) (m1 + m)
theorem LsC.shc {tw : List Int} (h8 : ∀ s ∈ tw, 0 ≤ s ∧ s < 8) {ls : List (List Int)} (hls : OkLs g.length tw tw.length ls) : ∀ {x : Nat} {ts : List Trp} {m : Int}, LsC t w g rest ls x ts m → ShC t w g rest (x : Int) (goalOf ls x) ts m := by
  intro x ts m hc;have hlen := hls.len
  induction hc with
  | @done x hx =>
    have : goalOf ls x = 0 := by rw [goalOf, List.drop_eq_nil_of_le hx]; rfl
    rw [this]; exact .done _
  | @skip x ts m hx _ ih =>
    have hxl : x < ls.length := (List.getElem?_eq_some_iff.1 hx).1;obtain ⟨_, _, _, _, _, g6⟩ := goal_step h8 hls hx;rw [g6 rfl];exact ShC.skip' (by omega) (show ShC t w g rest ((x : Int) + 1) _ _ _ from ih)
  | @take x l l' m1 ts m hx hne hb _ ih =>
    have hxl : x < ls.length := (List.getElem?_eq_some_iff.1 hx).1;obtain ⟨_, g2, g3, g4, g5, _⟩ := goal_step h8 hls hx;have g5' := g5 hne;exact .take (by omega) g5'.2 ⟨g5'.1, g3.2⟩ g4 hb (by rw [g2]; exact ih)
theorem lsC_skips {ls : List (List Int)} {ts : List Trp} {m : Int} : ∀ (k x y : Nat), x + k = y → LsC t w g rest ls y ts m → (∀ z, x ≤ z → z < y → ls[z]? = some []) → LsC t w g rest ls x ts m := by
  intro k
  induction k with
  | zero => intro x y hxy hc _; rw [show x = y by omega]; exact hc
  | succ k ih => intro x y hxy hc hz; exact .skip (hz x (by omega) (by omega)) (ih (x + 1) y (by omega) hc fun z h1 h2 => hz z (by omega) h2)
theorem BstW.uniq {x part : Int} {r r' : Bo} (h : BstW t w g rest x part r) (h' : BstW t w g rest x part r') : r = r' := by
  obtain ⟨wd, hw1, hb1⟩ := h;obtain ⟨wd', hw2, hb2⟩ := h';obtain rfl := Option.some.inj (hw1.symm.trans hw2);exact hb1.uniq hb2
theorem tr_lists : ∀ (ts : List Trp) (x : Nat) (goal m : Int), (0 ≤ goal ∧ goal < 256) → TrOk t w g rest (x : Int) goal ts m → ∃ A : Int → Nat, (∀ s : Int, 0 ≤ s → s < 8 → hasP goal s = true → x ≤ A s ∧ A s < g.length) ∧
    ∀ ls : List (List Int), ls.length = g.length → (∀ (y : Nat) (l : List Int), x ≤ y → ls[y]? = some l → (∀ s ∈ l, 0 ≤ s ∧ s < 8) ∧ ∀ s : Int, 0 ≤ s → s < 8 → (s ∈ l ↔ hasP goal s = true ∧ A s = y)) → LsC t w g rest ls x ts m := by
  intro ts
  induction ts with
  | nil =>
    intro x goal m hg hh;obtain ⟨rfl, rfl⟩ := hh;refine ⟨fun _ => x, fun s _ _ hs => (by rw [hasP_zero] at hs; cases hs), fun ls hl hm => ?_⟩
    by_cases hx : x ≤ ls.length
    · refine lsC_skips (ls.length - x) x ls.length (by omega) (.done (Nat.le_refl _)) fun z h1 h2 => ?_
      rw [List.getElem?_eq_getElem h2];obtain ⟨m1, m2⟩ := hm z ls[z] h1 (List.getElem?_eq_getElem h2)
      congr 1
      cases hz : ls[z] with
      | nil => rfl
      | cons a l =>
        rw [hz] at m1 m2;have ha := m1 a (by simp);have := ((m2 a ha.1 ha.2).1 (by simp)).1;rw [hasP_zero] at this; cases this
    · exact .done (by omega)
  | cons yl ts ih =>
    intro x goal m hg hh;obtain ⟨y, l⟩ := yl;obtain ⟨h1, h2, part, m1, m2, hp, hs, hb, rfl, ht⟩ := hh;obtain ⟨yn, rfl⟩ : ∃ yn : Nat, y = yn := ⟨y.toNat, by omega⟩;obtain ⟨A, a1, a2⟩ := ih (yn + 1) (minusP goal part) m2 (minus_ok hg) ht;refine ⟨fun s => if hasP part s = true then yn else A s, fun s s0 s8 hs2 => ?_, fun ls hl hm => ?_⟩
    · dsimp only
      split
      · omega
      · rename_i hps
        have := a1 s s0 s8 (by rw [has_minus ⟨s0, s8⟩, hs2]; simpa using hps)
        omega
    · have hyl : yn < ls.length := by omega
      have hye := List.getElem?_eq_getElem hyl;obtain ⟨q1, q2⟩ := hm yn ls[yn] (by omega) hye;have hmemy : ∀ s : Int, 0 ≤ s → s < 8 → (s ∈ ls[yn] ↔ hasP part s = true) := fun s s0 s8 => by
        rw [q2 s s0 s8]
        constructor
        · rintro ⟨e1, e2⟩
          by_cases hps : hasP part s = true
          · exact hps
          · have e2 : (if hasP part s = true then yn else A s) = yn := e2;rw [if_neg hps] at e2;have := a1 s s0 s8 (by rw [has_minus ⟨s0, s8⟩, e1]; simpa using hps)
            omega
        · intro hps;exact ⟨sub_has hs hps, by show (if hasP part s = true then yn else A s) = yn; rw [if_pos hps]⟩
      have hset : setP 0 ls[yn] = part := by
        refine hasP_ext (setP_ok _ 0 (by decide) q1) ⟨by omega, hp.2⟩ fun k k0 k8 => ?_
        rw [Bool.eq_iff_iff, has_setP _ 0 k k0 fun z hz => (q1 z hz).1, hasP_zero, ← hmemy k k0 k8];simp
      have hne : ls[yn] ≠ [] := fun e => by
        rw [e] at hset;have : (0 : Int) = part := hset
        omega
      refine lsC_skips (yn - x) x yn (by omega) (.take hye hne (by rw [hset]; exact hb) (a2 ls hl fun z lz hz hlz => ?_)) fun z z1 z2 => ?_
      · obtain ⟨r1, r2⟩ := hm z lz (by omega) hlz;refine ⟨r1, fun s s0 s8 => ?_⟩;rw [r2 s s0 s8, has_minus ⟨s0, s8⟩, Bool.and_eq_true, Bool.not_eq_true']
        constructor
        · rintro ⟨e1, e2⟩
          have e2 : (if hasP part s = true then yn else A s) = z := e2
          by_cases hps : hasP part s = true
          · rw [if_pos hps] at e2; omega
          · rw [if_neg hps] at e2;exact ⟨⟨e1, by simpa using hps⟩, e2⟩
        · rintro ⟨⟨e1, e2⟩, e3⟩
          refine ⟨e1, ?_⟩;show (if hasP part s = true then yn else A s) = z;rw [if_neg (by rw [e2]; simp)]; exact e3
      · have hzl : z < ls.length := by omega
        rw [List.getElem?_eq_getElem hzl];obtain ⟨r1, r2⟩ := hm z ls[z] z1 (List.getElem?_eq_getElem hzl)
        congr 1
        cases hz : ls[z] with
        | nil => rfl
        | cons a lz =>
          exfalso
          rw [hz] at r1 r2;have ha := r1 a (by simp);obtain ⟨e1, e2⟩ := (r2 a ha.1 ha.2).1 (by simp);have e2 : (if hasP part a = true then yn else A a) = z := e2
          by_cases hps : hasP part a = true
          · rw [if_pos hps] at e2; omega
          · rw [if_neg hps] at e2;have := a1 a ha.1 ha.2 (by rw [has_minus ⟨ha.1, ha.2⟩, e1]; simpa using hps)
            omega
noncomputable def visB (acc : Ac) (c : Shr) : Ac := match acc with
  | none => some c
  | some a => if sgnS c a < 0 then some c else some a
noncomputable def updA (acc : Ac) (P : List Trp) (M : Int) : Option (List Trp × Int) → Ac
  | none => acc
  | some d => visB acc (P ++ d.1, M + d.2)
theorem visB_ok {acc : Ac} {c : Shr} (hc : OkS c) (ha : OkA acc) : ShOk leS (fun d => d = c) acc (visB acc c) ∧ OkA (visB acc c) := by
  cases acc with
  | none => exact ⟨⟨.inr ⟨c, rfl, rfl⟩, fun d hd => ⟨c, rfl, hd ▸ leS_ok.rfl c⟩, fun a ha => by cases ha⟩, fun a h => by cases h; exact hc⟩
  | some a =>
    unfold visB
    by_cases h : sgnS c a < 0
    · simp only [if_pos h];refine ⟨⟨.inr ⟨c, rfl, rfl⟩, fun d hd => ⟨c, rfl, hd ▸ leS_ok.rfl c⟩, fun b hb => ?_⟩, fun b hb => by cases hb; exact hc⟩;cases hb;exact ⟨c, rfl, leS_ok.lt c a hc (ha a rfl) h⟩
    · simp only [if_neg h];exact ⟨⟨.inl rfl, fun d hd => ⟨a, rfl, hd ▸ leS_ok.ge c a hc (ha a rfl) h⟩, fun b hb => ⟨b, hb, leS_ok.rfl b⟩⟩, ha⟩
theorem tmod_n {a b : Int} (h : 0 ≤ a) : Int.tmod a b = a % b := Int.tmod_eq_emod_of_nonneg h
variable (h : OkR t w g rest wage)
abbrev KF := Bool → Int → (List Int) → Int → Int → (List (Int × (List Int))) → Int → (List (Int × (List Int))) → Int → (List (Int × Int × Int × Int × Int)) → (List ((List Int))) → (List (Int × Int × Int × Int)) → Option ((List (Int × (List Int))) × Int × Bool)
abbrev kF (k1 : KF) (t : List Tw) (w : List (List Int)) (g : List Wd) (rest wage : Int) (tw : List Int) (i : Int) (acc : Ac) : Option ((List (Int × (List Int))) × Int × Bool) := k1 (acB acc).1 i tw rest wage [] 0 (acB acc).2.1 (acB acc).2.2 t w g
include h in
theorem loopR3 {tw : List Int} (htw : towersP t.length tw = 0) {ls : List (List Int)} (hls : OkLs g.length tw tw.length ls) {i : Int} (hi : 0 ≤ i ∧ i ≤ 1000000) {k1 : KF} {acc : Ac} (ha : OkA acc) :
    ∀ (k m x : Nat) (P : List Trp) (M : Int), x + k = g.length → k < m → P.length ≤ x → (∀ y ∈ P, y.2.length ≤ 17) → 0 ≤ M → M ≤ 1440 * x →
    ∃ c : Option (List Trp × Int), (∀ ts m, LsC t w g rest ls x ts m ↔ c = some (ts, m)) ∧ (∀ d, c = some d → OkS (P ++ d.1, M + d.2)) ∧
      ev_ref11_Fewest_l3 2200 g (acB acc).1 i k1 m true (x : Int) tw rest wage 0 (acB acc).2.2 ls P M t w g [] (acB acc).2.1 = kF k1 t w g rest wage tw (i + 1) (updA acc P M c) := by
  have hgn := h.gn;have ht := h.tn;have hlen := hls.len;obtain ⟨l5, lr, ln⟩ := towers_iff.1 htw;have h64 : in64 (i + 1) = true := in64_of (by omega);intro k
  induction k with
  | zero =>
    intro m x P M hx hm hP hst hM0 hM1;obtain ⟨m, rfl⟩ : ∃ m', m = m' + 1 := ⟨m - 1, by omega⟩;have hoS : OkS (P, M) := ⟨by show P.length ≤ 100; omega, fun y hy => by have := hst y hy; omega⟩;refine ⟨some ([], 0), fun ts m => ⟨fun hc => ?_, fun e => ?_⟩, fun d hd => ?_, ?_⟩
    · cases hc with
      | done => rfl
      | skip hxs _ => have := (List.getElem?_eq_some_iff.1 hxs).1; omega
      | take hxs _ _ _ => have := (List.getElem?_eq_some_iff.1 hxs).1; omega
    · cases e; exact .done (by omega)
    · cases hd; rw [List.append_nil, Int.add_zero]; exact hoS
    · rw [ev_ref11_Fewest_l3, cond_if, if_neg (by simp; omega), cond_if, if_pos rfl, cond_if];rw [updA, List.append_nil, Int.add_zero]
      cases acc with
      | none => rw [if_pos (by rfl), chk_of h64]; rfl
      | some a =>
        have hb := better_ev (n := 2200) (by decide) hoS (ha a rfl);have hb' : ev_ref11_better 2200 P M (acB (some a)).2.1 (acB (some a)).2.2 = some (decide (sgnS (P, M) a < 0)) := hb;rw [if_neg (by simp [acB]), bind_of hb', cond_if]
        by_cases hlt : sgnS (P, M) a < 0
        · rw [if_pos (decide_eq_true hlt), chk_of h64];simp only [visB, if_pos hlt]
          rfl
        · rw [if_neg (by simpa using hlt), chk_of h64];simp only [visB, if_neg hlt]
  | succ k ih =>
    intro m x P M hx hm hP hst hM0 hM1;obtain ⟨m, rfl⟩ : ∃ m', m = m' + 1 := ⟨m - 1, by omega⟩;have hxl : x < ls.length := by omega
    have hxg : x < g.length := by omega
    have hxe := List.getElem?_eq_getElem hxl;have hx64 : in64 ((x : Int) + 1) = true := in64_of (by omega);rw [ev_ref11_Fewest_l3, cond_if, if_pos (decide_eq_true (by omega)), cond_if, if_pos rfl, ev_ref11_Fewest_j4, idx_nat hxe, cond_if]
    by_cases hne : ls[x] = []
    · obtain ⟨c, c1, c2, c3⟩ := ih m (x + 1) P M (by omega) (by omega) (by omega) hst hM0 (by omega);refine ⟨c, fun ts m => ?_, c2, ?_⟩
      · rw [← c1]
        constructor
        · intro hc
          cases hc with
          | done hx2 => omega
          | skip _ hc => exact hc
          | take hxs hn _ _ => rw [hxe] at hxs; cases hxs; exact absurd hne hn
        · intro hc;exact .skip (by rw [hxe, hne]) hc
      · rw [if_neg (by rw [hne]; simp), chk_of hx64];exact c3
    · have hll : ls[x].length ≠ 0 := fun e => hne (List.length_eq_zero_iff.1 e)
      obtain ⟨n1, n2, n3⟩ := hls.nd x _ hxe;rw [List.take_of_length_le (Nat.le_refl _)] at n3;have hl0 : towersP t.length ls[x] = 0 := towers_iff.2 ⟨by omega, fun s hs => lr s (n3 s hs), n1⟩;have hge : g[((x : Int)).toNat]? = some g[x] := by rw [Int.toNat_natCast]; exact List.getElem?_eq_getElem hxg
      obtain ⟨res, e, hb⟩ := refBest_ev h (x := (x : Int)) (wd := g[x]) hge hl0;have hbw : BstW t w g rest (x : Int) (setP 0 ls[x]) res := ⟨g[x], hge, hb⟩;have hres : ∀ a, res = some a → a.1.length ≤ 17 ∧ 0 ≤ a.2 ∧ a.2 ≤ 1440 := fun a hra => by
        rw [hra] at hbw;exact bstw_len h (l := a.1) (m := a.2) hbw
      rw [if_pos (decide_eq_true (by omega)), idx_nat (List.getElem?_eq_getElem hxg), bind_of e]
      cases hr : res with
      | none =>
        refine ⟨none, fun ts m => ⟨fun hc => ?_, fun e => (by cases e)⟩, fun d hd => (by cases hd), ?_⟩
        · cases hc with
          | done hx2 => omega
          | skip hxs _ => rw [hxe] at hxs; exact absurd (Option.some.inj hxs) hne
          | take hxs _ hb2 _ =>
            rw [hxe] at hxs;cases hxs;have := hbw.uniq hb2;rw [hr] at this; cases this
        · have hroom : room 32 (P.length + ([((x : Int), (stB (none : Bo)).1)] : List Trp).length) = true := room_iff.2 (by simp; omega);rw [chk_of hroom, chk_of (in64_of (by show -9223372036854775808 ≤ M + 0 ∧ M + 0 ≤ 9223372036854775807; omega)), chk_of hx64];obtain ⟨p, hp⟩ : ∃ p, m = p + 1 := ⟨m - 1, by omega⟩;show ev_ref11_Fewest_l3 2200 g (acB acc).1 i k1 m (stB (none : Bo)).2.2 _ _ _ _ _ _ _ _ _ _ _ _ _ _ = _;rw [hp, ev_ref11_Fewest_l3, cond_if]
          split
          · rw [cond_if, if_neg (by simp [stB]), cond_if, if_neg (by simp [stB]), chk_of h64]
            rfl
          · rw [cond_if, if_neg (by simp [stB]), chk_of h64]
            rfl
      | some a =>
        obtain ⟨a1, a2, a3⟩ := hres a hr;obtain ⟨c, c1, c2, c3⟩ := ih m (x + 1) (P ++ [((x : Int), a.1)]) (M + a.2) (by omega) (by omega) (by rw [List.length_append]; simp; omega) (fun y hy => by
          rcases List.mem_append.1 hy with hy | hy
          · exact hst y hy
          · rw [List.mem_singleton] at hy; rw [hy]; exact a1) (by omega) (by omega)
        have hassoc : ∀ d : List Trp × Int, (P ++ [((x : Int), a.1)] ++ d.1, M + a.2 + d.2) = (P ++ (((x : Int), a.1) :: d.1), M + (a.2 + d.2)) := fun d => by
          rw [List.append_assoc, Int.add_assoc]; rfl
        refine ⟨c.map fun d => (((x : Int), a.1) :: d.1, a.2 + d.2), fun ts m => ?_, fun d hd => ?_, ?_⟩
        · constructor
          · intro hc
            cases hc with
            | done hx2 => omega
            | skip hxs _ => rw [hxe] at hxs; exact absurd (Option.some.inj hxs) hne
            | take hxs _ hb2 hc =>
              rw [hxe] at hxs;cases hxs;have := hbw.uniq hb2;rw [hr] at this;cases this
              rw [(c1 _ _).1 hc]; rfl
          · intro hc
            cases hcc : c with
            | none => rw [hcc] at hc; cases hc
            | some d =>
              rw [hcc] at hc;simp only [Option.map_some, Option.some.injEq, Prod.mk.injEq] at hc;obtain ⟨rfl, rfl⟩ := hc;rw [hr] at hbw;exact .take hxe hne (l' := a.1) (m1 := a.2) hbw ((c1 _ _).2 hcc)
        · cases hcc : c with
          | none => rw [hcc] at hd; cases hd
          | some d2 =>
            rw [hcc] at hd;cases hd;have := c2 d2 hcc;rw [hassoc] at this; exact this
        · have hroom : room 32 (P.length + ([((x : Int), (stB (some a)).1)] : List Trp).length) = true := room_iff.2 (by simp; omega);rw [chk_of hroom, chk_of (in64_of (by show -9223372036854775808 ≤ M + a.2 ∧ M + a.2 ≤ 9223372036854775807; omega)), chk_of hx64];refine c3.trans ?_
          cases c with
          | none => rfl
          | some d =>
            rw [Option.map_some, updA, updA, hassoc]
def Dig (K q : Nat) (tw : List Int) (i : Nat) (ls : List (List Int)) : Prop := ∀ j, i ≤ j → j < tw.length → ∀ s, tw[j]? = some s → ∃ l, ls[(q / K ^ (j - i)) % K]? = some l ∧ s ∈ l
include h in
theorem loopR2 {tw : List Int} (htw : towersP t.length tw = 0) {b10 : Bool} {i11 : Int} {k1 : KF} {i29 : Int} {tr : List Trp} :
    ∀ (k m i q : Nat) (ls : List (List Int)), i + k = tw.length → k < m → q ≤ 100000 → OkLs g.length tw i ls →
    ∃ ls', OkLs g.length tw tw.length ls' ∧ Dig g.length q tw i ls' ∧ (∀ (y : Nat) (l : List Int) (s : Int), ls[y]? = some l → s ∈ l → ∃ l', ls'[y]? = some l' ∧ s ∈ l') ∧
      ev_ref11_Fewest_l2 2200 g b10 i11 k1 m (q : Int) (i : Int) tw rest wage 0 i29 ls t w g [] tr = ev_ref11_Fewest_l3 2200 g b10 i11 k1 2200 true 0 tw rest wage 0 i29 ls' [] 0 t w g [] tr := by
  have hgn := h.gn;obtain ⟨l5, lr, ln⟩ := towers_iff.1 htw;intro k
  induction k with
  | zero =>
    intro m i q ls hi hm hq hls;obtain ⟨m, rfl⟩ : ∃ m', m = m' + 1 := ⟨m - 1, by omega⟩;obtain rfl : i = tw.length := by omega
    refine ⟨ls, hls, fun j h1 h2 => by omega, fun y l s hy hs => ⟨l, hy, hs⟩, ?_⟩;rw [ev_ref11_Fewest_l2, cond_if, if_neg (by simp)]
  | succ k ih =>
    intro m i q ls hi hm hq hls;obtain ⟨m, rfl⟩ : ∃ m', m = m' + 1 := ⟨m - 1, by omega⟩;have hlt : i < tw.length := by omega
    have hlen := hls.len;have hx : q % g.length < ls.length := by rw [hlen]; exact Nat.mod_lt _ (by omega)
    have hxe := List.getElem?_eq_getElem hx;have e1 : Int.tmod (q : Int) (g.length : Int) = ((q % g.length : Nat) : Int) := by rw [tmod_n (by omega)]; rfl
    have e2 : Int.tdiv (q : Int) (g.length : Int) = ((q / g.length : Nat) : Int) := by rw [Int.tdiv_eq_ediv_of_nonneg (by omega)]; rfl
    have hql : q / g.length ≤ q := Nat.div_le_self _ _;have hgl : (g.length : Int) ≠ 0 := by omega
    have hq0 := Int.ediv_nonneg (show (0 : Int) ≤ (q : Int) by omega) (show (0 : Int) ≤ (g.length : Int) by omega);have n2 := (hls.nd _ _ hxe).2.1;obtain ⟨ls', q1, q2, q3, q4⟩ := ih m (i + 1) (q / g.length) _ (by omega) (by omega) (by omega) (okls_step ln hlt hls hx);refine ⟨ls', q1, fun j h1 h2 s hs => ?_, fun y l s hy hs => ?_, ?_⟩
    · by_cases hji : j = i
      · subst hji;rw [Nat.sub_self, Nat.pow_zero, Nat.div_one];rw [List.getElem?_eq_getElem hlt] at hs;exact q3 (q % g.length) _ s (by rw [List.getElem?_set, if_pos rfl, if_pos hx]) (by rw [← Option.some.inj hs]; exact List.mem_append.2 (.inr (by simp)))
      · have := q2 j (by omega) h2 s hs;rw [Nat.div_div_eq_div_mul, ← Nat.pow_succ', show (j - (i + 1)).succ = j - i by omega] at this;exact this
    · by_cases e : q % g.length = y
      · subst e;rw [hxe] at hy;cases hy;exact q3 (q % g.length) _ s (by rw [List.getElem?_set, if_pos rfl, if_pos hx]) (List.mem_append.2 (.inl hs))
      · exact q3 y l s (by rw [List.getElem?_set, if_neg e]; exact hy) hs
    · rw [ev_ref11_Fewest_l2, cond_if, if_pos (decide_eq_true (by omega)), chk_of (by simpa using hgl), chk_of (by simpa using hgl), e1, idx_nat hxe, idx_nat (List.getElem?_eq_getElem hlt), chk_of (room_iff.2 (by simp; omega)), chk_of (by simpa using hgl), e2, chk_of (in64_of (by omega)), chk_of (in64_of (by omega)), Int.toNat_natCast];exact q4
theorem digits {K : Nat} (hK : 0 < K) : ∀ (L : Nat) (f : Nat → Nat), (∀ j, j < L → f j < K) → ∃ q, q < K ^ L ∧ ∀ j, j < L → q / K ^ j % K = f j := by
  intro L
  induction L with
  | zero => intro f _; exact ⟨0, by simp, fun j hj => by omega⟩
  | succ L ih =>
    intro f hf;obtain ⟨q, h1, h2⟩ := ih (fun j => f (j + 1)) fun j hj => hf (j + 1) (by omega)
    have hf0 := hf 0 (by omega);have hdiv : (f 0 + K * q) / K = q := by rw [Nat.add_mul_div_left _ _ hK, Nat.div_eq_of_lt hf0, Nat.zero_add]
    refine ⟨f 0 + K * q, ?_, fun j hj => ?_⟩
    · rw [Nat.pow_succ, Nat.mul_comm (K ^ L) K];have : K * (q + 1) ≤ K * K ^ L := Nat.mul_le_mul_left _ h1;rw [Nat.mul_add, Nat.mul_one] at this
      omega
    · cases j with
      | zero => rw [Nat.pow_zero, Nat.div_one, Nat.add_mul_mod_self_left, Nat.mod_eq_of_lt hf0]
      | succ j =>
        rw [Nat.pow_succ', ← Nat.div_div_eq_div_mul, hdiv];exact h2 j (by omega)
include h in
theorem loopR1 {tw : List Int} (htw : towersP t.length tw = 0) {all : Nat} (hall : all ≤ 2000) :
    ∀ (k m q : Nat) (acc : Ac), q + k = all → k < m → OkA acc → ∃ r, ev_ref11_Fewest_l1 2200 (all : Int) g m (acB acc).1 (q : Int) tw rest wage [] 0 (acB acc).2.1 (acB acc).2.2 t w g = some ((acB r).2.1, (acB r).2.2, (acB r).1) ∧
      (r = acc ∨ ∃ c, ShAll t w g rest 0 (setP 0 tw) [] 0 c ∧ r = some c) ∧ (∀ a, acc = some a → ∃ s, r = some s ∧ leS s a) ∧
      (∀ q', q ≤ q' → q' < all → ∃ ls, OkLs g.length tw tw.length ls ∧ Dig g.length q' tw 0 ls ∧ ∀ ts m', LsC t w g rest ls 0 ts m' → ∃ s, r = some s ∧ leS s (ts, m')) ∧ OkA r := by
  have hgn := h.gn;have ht := h.tn;obtain ⟨l5, lr, ln⟩ := towers_iff.1 htw;have h8 : ∀ s ∈ tw, 0 ≤ s ∧ s < 8 := fun s hs => by have := lr s hs; omega
  intro k
  induction k with
  | zero =>
    intro m q acc hq hm ha;obtain ⟨m, rfl⟩ : ∃ m', m = m' + 1 := ⟨m - 1, by omega⟩;refine ⟨acc, ?_, .inl rfl, fun a h => ⟨a, h, leS_ok.rfl a⟩, fun q' h1 h2 => by omega, ha⟩;rw [ev_ref11_Fewest_l1, cond_if, if_neg (by simp; omega)]
  | succ k ih =>
    intro m q acc hq hm ha;obtain ⟨m, rfl⟩ : ∃ m', m = m' + 1 := ⟨m - 1, by omega⟩;obtain ⟨ls, p1, p2, _, p4⟩ := loopR2 h htw (b10 := (acB acc).1) (i11 := (q : Int)) (k1 := fun b10q i11q l12q i13q i14q l15q i17q l18q i19q l20q l21q l22q => ev_ref11_Fewest_l1 2200 (all : Int) g m b10q i11q l12q i13q i14q l15q i17q l18q i19q l20q l21q l22q) (i29 := (acB acc).2.2) (tr := (acB acc).2.1) tw.length 2200 0 q (List.replicate g.length []) (by omega) (by omega) (by omega) okls0;obtain ⟨c, c1, c2, c3⟩ := loopR3 h htw p1 (i := (q : Int)) (by omega) (k1 := fun b10q i11q l12q i13q i14q l15q i17q l18q i19q l20q l21q l22q => ev_ref11_Fewest_l1 2200 (all : Int) g m b10q i11q l12q i13q i14q l15q i17q l18q i19q l20q l21q l22q) ha g.length 2200 0 [] 0 (by omega) (by omega) (by simp) (by simp) (by decide) (by decide);have hroom : room 24 ((g.length : Int)).toNat = true := room_iff.2 (by rw [Int.toNat_natCast]; omega);have hstep : ev_ref11_Fewest_l1 2200 (all : Int) g (m + 1) (acB acc).1 (q : Int) tw rest wage [] 0 (acB acc).2.1 (acB acc).2.2 t w g = ev_ref11_Fewest_l1 2200 (all : Int) g m (acB (updA acc [] 0 c)).1 ((q + 1 : Nat) : Int) tw rest wage [] 0 (acB (updA acc [] 0 c)).2.1 (acB (updA acc [] 0 c)).2.2 t w g := by
      rw [show ((0 : Nat) : Int) = 0 from rfl] at p4 c3;rw [ev_ref11_Fewest_l1, cond_if, if_pos (decide_eq_true (by omega)), chk_of (by simp), chk_of hroom, Int.toNat_natCast, p4, c3]
      rfl
    rw [hstep];have hshc : ∀ ts m', LsC t w g rest ls 0 ts m' → ShAll t w g rest 0 (setP 0 tw) [] 0 (ts, m') := fun ts m' hc => by
      have := hc.shc h8 p1;rw [goal_all h8 p1] at this;exact ⟨ts, m', by rw [Int.zero_add]; rfl, this⟩
    cases hcc : c with
    | none =>
      obtain ⟨r, e, r1, r2, r3, r4⟩ := ih m (q + 1) acc (by omega) (by omega) ha;refine ⟨r, e, r1, r2, fun q' h1 h2 => ?_, r4⟩
      by_cases e2 : q' = q
      · subst e2;refine ⟨ls, p1, p2, fun ts m' hc => ?_⟩;rw [(c1 ts m').1 hc] at hcc; cases hcc
      · exact r3 q' (by omega) h2
    | some d =>
      have hod := c2 d hcc;obtain ⟨v1, v2⟩ := visB_ok (acc := acc) hod ha;obtain ⟨r, e, r1, r2, r3, r4⟩ := ih m (q + 1) (visB acc ([] ++ d.1, 0 + d.2)) (by omega) (by omega) v2;have hd : LsC t w g rest ls 0 d.1 d.2 := (c1 d.1 d.2).2 hcc;have hdd : ([] ++ d.1, 0 + d.2) = d := by rw [List.nil_append, Int.zero_add]
      obtain ⟨s0, hs0, hle0⟩ := v1.2.1 _ rfl;obtain ⟨s1, hs1, hle1⟩ := r2 s0 hs0;refine ⟨r, e, ?_, fun a haa => ?_, fun q' h1 h2 => ?_, r4⟩
      · rcases r1 with e1 | hc
        · rcases v1.1 with e2 | ⟨c', rfl, e2⟩
          · exact .inl (e1.trans e2)
          · exact .inr ⟨d, hshc d.1 d.2 hd, e1.trans (e2.trans (congrArg some hdd))⟩
        · exact .inr hc
      · obtain ⟨s, hs, hle⟩ := v1.2.2 a haa;obtain ⟨s2, hs2, hle2⟩ := r2 s hs;exact ⟨s2, hs2, leS_ok.trans _ _ _ hle2 hle⟩
      · by_cases e2 : q' = q
        · subst e2;refine ⟨ls, p1, p2, fun ts m' hc => ?_⟩;have := (c1 ts m').1 hc;rw [hcc] at this;cases this
          rw [hdd] at hle0;exact ⟨s1, hs1, leS_ok.trans _ _ _ hle1 hle0⟩
        · exact r3 q' (by omega) h2
theorem sh_uniq {C : Shr → Prop} {r r' : Ac} (h1 : ShOk leS C none r) (h2 : ShOk leS C none r') : r = r' := by
  rcases h1.1 with e | ⟨c, hc, e⟩
  · rcases h2.1 with e' | ⟨c', hc', e'⟩
    · rw [e, e']
    · obtain ⟨s, hs, _⟩ := h1.2.1 c' hc';rw [e] at hs; cases hs
  · rcases h2.1 with e' | ⟨c', hc', e'⟩
    · obtain ⟨s, hs, _⟩ := h2.2.1 c hc;rw [e'] at hs; cases hs
    · obtain ⟨s, hs, l1⟩ := h1.2.1 c' hc';obtain ⟨s', hs', l2⟩ := h2.2.1 c hc;rw [e] at hs; cases hs;rw [e'] at hs'; cases hs';rw [e, e', leS_eq l1 l2]
include h in
theorem refFewest_ev {tw : List Int} (htw : towersP t.length tw = 0) : ∃ r, ev_ref11_Fewest 2200 t w g rest wage tw = some ((acB r).2.1, (acB r).2.2, (acB r).1) ∧ ShOk leS (ShAll t w g rest 0 (setP 0 tw) [] 0) none r ∧ OkA r := by
  have hgn := h.gn;have ht := h.tn;obtain ⟨l5, lr, ln⟩ := towers_iff.1 htw;have h8 : ∀ s ∈ tw, 0 ≤ s ∧ s < 8 := fun s hs => by have := lr s hs; omega
  have hgoal := setP_ok tw 0 (by decide) h8;have hpow : ∀ i, i ≤ 5 → g.length ^ i ≤ 1024 := fun i hi => by
    have h1 : g.length ^ i ≤ 4 ^ i := Nat.pow_le_pow_left hgn.2 i;have h2 : 4 ^ i ≤ 4 ^ 5 := Nat.pow_le_pow_right (by decide) hi;have h3 : (4 : Nat) ^ 5 = 1024 := by decide
    omega
  have l0 : ∀ (k m i : Nat), i + k = tw.length → k < m → ev_ref11_Fewest_l0 2200 tw g rest wage t w m ((g.length ^ i : Nat) : Int) (i : Int) = ev_ref11_Fewest_l1 2200 ((g.length ^ tw.length : Nat) : Int) g 2200 false 0 tw rest wage [] 0 [] 0 t w g := by
    intro k
    induction k with
    | zero =>
      intro m i hi hm;obtain ⟨m, rfl⟩ : ∃ m', m = m' + 1 := ⟨m - 1, by omega⟩;obtain rfl : i = tw.length := by omega
      rw [ev_ref11_Fewest_l0, cond_if, if_neg (by simp)]
    | succ k ih =>
      intro m i hi hm;obtain ⟨m, rfl⟩ : ∃ m', m = m' + 1 := ⟨m - 1, by omega⟩;have e : ((g.length ^ i : Nat) : Int) * (g.length : Int) = ((g.length ^ (i + 1) : Nat) : Int) := by rw [Nat.pow_succ, Int.natCast_mul]
      have hp := hpow (i + 1) (by omega);rw [ev_ref11_Fewest_l0, cond_if, if_pos (decide_eq_true (by omega)), e, chk_of (in64_of (by omega)), chk_of (in64_of (by omega))];exact ih m (i + 1) (by omega) (by omega)
  have hp := hpow tw.length l5;have e0 := l0 tw.length 2200 0 (by omega) (by omega);obtain ⟨r, e, r1, r2, r3, r4⟩ := loopR1 h htw (all := g.length ^ tw.length) (by omega) (g.length ^ tw.length) 2200 0 none (by omega) (by omega) (fun a ha => by cases ha);refine ⟨r, ?_, ⟨r1, fun c hc => ?_, fun a ha => by cases ha⟩, r4⟩
  · rw [ev_ref11_Fewest];exact e0.trans e
  · obtain ⟨ts, m', rfl, hc⟩ := hc;obtain ⟨A, a1, a2⟩ := tr_lists ts 0 (setP 0 tw) m' hgoal hc.tr;have hmem : ∀ j (hj : j < tw.length), A tw[j] < g.length := fun j hj => by
      have := h8 _ (List.getElem_mem hj);exact (a1 tw[j] this.1 this.2 ((has_setP tw 0 _ this.1 fun y hy => (h8 y hy).1).2 (.inl (List.getElem_mem hj)))).2
    obtain ⟨q, q1, q2⟩ := digits (K := g.length) (by omega) tw.length (fun j => if hj : j < tw.length then A tw[j] else 0) (fun j hj => by rw [dif_pos hj]; exact hmem j hj);obtain ⟨ls, p1, p2, p3⟩ := r3 q (Nat.zero_le _) q1;rw [List.nil_append, Int.zero_add];refine p3 ts m' (a2 ls p1.len fun y l _ hl => ⟨fun s hs => h8 s (List.mem_of_mem_take ((p1.nd y l hl).2.2 s hs)), fun s s0 s8 => ?_⟩);have hdig : ∀ j (hj : j < tw.length), ∃ l, ls[A tw[j]]? = some l ∧ tw[j] ∈ l := fun j hj => by
      have := p2 j (Nat.zero_le _) hj tw[j] (List.getElem?_eq_getElem hj);rw [Nat.sub_zero, q2 j hj, dif_pos hj] at this;exact this
    have hgs := has_setP tw 0 s s0 fun y hy => (h8 y hy).1
    rw [hasP_zero] at hgs
    constructor
    · intro hs;have hst := List.mem_of_mem_take ((p1.nd y l hl).2.2 s hs);refine ⟨hgs.2 (.inl hst), ?_⟩;obtain ⟨j, hj, rfl⟩ := List.getElem_of_mem hst;obtain ⟨l', hl', hs'⟩ := hdig j hj
      by_cases e : A tw[j] = y
      · exact e
      · exact absurd hs (p1.dj _ _ _ _ e hl' hl _ hs')
    · rintro ⟨hs, rfl⟩
      rcases hgs.1 hs with hst | hst
      · obtain ⟨j, hj, rfl⟩ := List.getElem_of_mem hst;obtain ⟨l', hl', hs'⟩ := hdig j hj;rw [hl] at hl';cases hl'
        exact hs'
      · cases hst
theorem equal_refl {a : List Trp} (ha : a.length ≤ 100) (hst : ∀ y ∈ a, y.2.length ≤ 100) : ev_ref11_Equal 2200 a a = some true := by
  have key : ∀ (k m i : Nat), i + k = a.length → k < m → ev_ref11_Equal_l0 2200 a a m (i : Int) = some true := by
    intro k
    induction k with
    | zero =>
      intro m i hi hm;obtain ⟨m, rfl⟩ : ∃ m', m = m' + 1 := ⟨m - 1, by omega⟩;rw [ev_ref11_Equal_l0, cond_if, if_neg (by simp; omega)]
    | succ k ih =>
      intro m i hi hm;obtain ⟨m, rfl⟩ : ∃ m', m = m' + 1 := ⟨m - 1, by omega⟩;have hlt : i < a.length := by omega
      have := hst _ (List.getElem_mem hlt);rw [ev_ref11_Equal_l0, cond_if, if_pos (decide_eq_true (by omega)), idx_nat (List.getElem?_eq_getElem hlt), idx_nat (List.getElem?_eq_getElem hlt), cond_if, if_neg (by simp), bind_of (same_refl (by omega) (by omega)), cond_if, if_neg (by simp), chk_of (in64_of (by omega))];exact ih m (i + 1) (by omega) (by omega)
  rw [ev_ref11_Equal, cond_if, if_neg (by simp)];exact key a.length 2200 0 (by omega) (by omega)
theorem end_f2 {e : Int} : ev_law11_RoundFewests_j2 2200 ([], 0, e) e [] = some true := by
  rw [ev_law11_RoundFewests_j2, cond_if, if_pos (by simp), cond_if, if_pos (by simp), cond_if, if_pos (by simp), bind_of known11]
end
theorem roundFewests_evx {rr1 : List (Int × Int × Int × Int × Int)} {rr2 : List ((List Int))} {rr3 : List (Int × Int × Int × Int)} {rr4 : Int} {rr5 : Int} {towers6 : List Int} (h0 : (rr1.length ≤ maxLen ∧ ∀ el71 ∈ rr1, (Lit.int .i64 el71.1).wf = true ∧ (Lit.int .i64 el71.2.1).wf = true ∧ (Lit.int .u16 el71.2.2.1).wf = true ∧ (Lit.int .i64 el71.2.2.2.1).wf = true ∧ (Lit.int .i64 el71.2.2.2.2).wf = true) ∧ (rr2.length ≤ maxLen ∧ ∀ el27 ∈ rr2, ((el27).length ≤ maxLen ∧ ∀ el3 ∈ el27, (Lit.int .i64 el3).wf = true)) ∧ (rr3.length ≤ maxLen ∧ ∀ el50 ∈ rr3, (Lit.int .u16 el50.1).wf = true ∧ (Lit.int .i64 el50.2.1).wf = true ∧ (Lit.int .i64 el50.2.2.1).wf = true ∧ (Lit.int .i64 el50.2.2.2).wf = true) ∧ (Lit.int .i64 rr4).wf = true ∧ (Lit.int .i64 rr5).wf = true) (h1 : (towers6.length ≤ maxLen ∧ ∀ el3 ∈ towers6, (Lit.int .i64 el3).wf = true)) :
    ∃ n, ev_law11_RoundFewests n rr1 rr2 rr3 rr4 rr5 towers6 = some true := by
  refine ⟨2200, ?_⟩;have hk : ((ev_law11_known 2200).bind fun r => some r) = some true := by rw [bind_of known11]
  obtain ⟨b, hb, hbf⟩ := large_ev (n := 2200) (by decide) (t := rr1) (w := rr2) (g := rr3) (rest := rr4) (wage := rr5);have hj0 : b = false → towers6.length ≤ 9 → ev_law11_RoundFewests_j0 2200 rr1 rr2 rr3 rr4 rr5 towers6 = some true := fun hbb hl => by
    obtain ⟨a1, a2, a3, a4⟩ := hbf hbb;have hcop : ev_law11_copied 2200 rr1 rr2 rr3 rr4 rr5 = some (rr1, rr2, rr3, rr4, rr5) := copied_ev (by omega) (by omega) (fun d hd => by have := a4 d hd; omega) (by omega) (by omega);have hc := check_any (n := 2200) (by decide) (t := rr1) (w := rr2) (g := rr3) (rest := rr4) (wage := rr5) (by omega) (by omega) (by omega) fun r h => by have := a4 r h; omega
    have hrc := refCheck_any (n := 2200) (by decide) (t := rr1) (w := rr2) (g := rr3) (rest := rr4) (wage := rr5) (by omega) (by omega) (by omega) fun r h => by have := a4 r h; omega
    rw [ev_law11_RoundFewests_j0, bind_of hcop, bind_of (ints_ev (by omega))];dsimp only
    by_cases hck : checkP rr1 rr2 rr3 rr4 rr5 = 0
    · have hok := checkP_ok hck;have ht := hok.tn;have hrt := refTowers_ev (t := rr1) (w := rr2) (g := rr3) (rest := rr4) (wage := rr5) (by omega) (l := towers6) (by omega)
      by_cases hz : towersP rr1.length towers6 = 0
      · obtain ⟨r, e, s1, s2⟩ := fewest_ev hok leS_ok (n := 2200) (by decide) hz;obtain ⟨r', e', s1', s2'⟩ := refFewest_ev hok hz;obtain rfl := sh_uniq s1 s1';rw [bind_of e, bind_of hrc, cond_if, if_pos (by simpa using hck), bind_of hrt, hz, ev_law11_RoundFewests_j1, cond_if, if_pos (by rfl), bind_of e', cond_if]
        cases hr : r with
        | none =>
          rw [if_neg (by simp [acB])];exact end_f2
        | some s =>
          have hs := s2 s hr;have heq : ev_ref11_Equal 2200 (fewR (some s)).1 (acB (some s)).2.1 = some true := equal_refl hs.len hs.st;rw [if_pos (by simp [acB]), cond_if, if_pos (by simp [fewR]), bind_of heq, cond_if, if_pos rfl, cond_if, if_pos (by simp [fewR, acB])];exact hk
      · have hct := checkTowers_ev (n := 2200) (by decide) (t := rr1) (w := rr2) (g := rr3) (rest := rr4) (wage := rr5) (by omega) (l := towers6) (by omega);rw [if_neg hz] at hct;have e : ev_round_Fewest 2200 rr1 rr2 rr3 rr4 rr5 towers6 = some ([], 0, towersP rr1.length towers6) := by
          rw [ev_round_Fewest, bind_of (check_ev (by decide) hok), cond_if, if_neg (by simp), bind_of hct, cond_if, if_pos (by simpa using hz)]
        rw [bind_of e, bind_of hrc, cond_if, if_pos (by simpa using hck), bind_of hrt, ev_law11_RoundFewests_j1, cond_if, if_neg (by simpa using hz)];exact end_f2
    · have e : ev_round_Fewest 2200 rr1 rr2 rr3 rr4 rr5 towers6 = some ([], 0, checkP rr1 rr2 rr3 rr4 rr5) := by
        rw [ev_round_Fewest, bind_of hc, cond_if, if_pos (by simpa using hck)]
      rw [bind_of e, bind_of hrc, cond_if, if_neg (by simpa using hck), ev_law11_RoundFewests_j1, cond_if, if_neg (by simpa using hck)];exact end_f2
  rw [ev_law11_RoundFewests, bind_of hb];cases b
  · simp only [cond_if, Bool.false_eq_true, if_false, decide_eq_true_eq, beq_iff_eq]
    split
    · exact hk
    · split
      · split
        · exact hk
        · split
          · exact hk
          · exact hj0 rfl (by omega)
      · split
        · exact hk
        · exact hj0 rfl (by omega)
  · exact hk
end Go.Proofs.YtohjpfkcahlfkaaGreat.Sy
