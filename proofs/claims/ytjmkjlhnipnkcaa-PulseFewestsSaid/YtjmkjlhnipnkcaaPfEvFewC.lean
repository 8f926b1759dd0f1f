/- The reference's search for the fewest faults: the loops around. -/
import Derived.Test.YtjmkjlhnipnkcaaPfEvFewB
set_option linter.unusedSimpArgs false
set_option linter.unusedVariables false
namespace Go.Proofs.Ytjmkjlhnipnkcaa.Sy
open Go.RowKit
set_option maxRecDepth 100000
def partQ (l : Pu.Ln) (t : Int) (R : Pu.Dl → Int → Prop) (i : Nat) (d : Pu.Dl) (c : Int) : Prop := ∃ (q : Nat) (d0 : Pu.Dl), q < i ∧ R d0 q ∧ Con l t q d0 d c
theorem part_step {l : Pu.Ln} {t B : Int} {R : Pu.Dl → Int → Prop} (h : OkQ B R) (d : Pu.Dl) (c : Nat) (hc : c < 4) : partQ l t R 4 d c ↔ stepQ l t R d c := by
  constructor
  · rintro ⟨q, d0, hq, hR, hx⟩
    exact ⟨d0, q, hR, hx.imp id fun z => z.2⟩
  · rintro ⟨d0, c0, hR, hx⟩
    have h0 := (h d0 c0 hR).2;obtain ⟨q, rfl⟩ : ∃ q : Nat, c0 = q := ⟨c0.toNat, by omega⟩;rcases hx with ⟨h1, h2⟩ | ⟨h1, h2, h3⟩
    · exact ⟨q, d0, by omega, hR, .inl ⟨h1, h2⟩⟩
    · exact ⟨q, d0, by omega, hR, .inr ⟨by omega, h1, h2, h3⟩⟩
theorem row_ok {B : Int} {R : Pu.Dl → Int → Prop} {S : Nat} {xs : List KM} (h : RowsOk R S xs) (hB : OkQ B R) (hB1 : B ≤ 100000) {j : Nat} {x : KM} (hx : xs[j]? = some x) : ∀ z ∈ x, (0 ≤ z.1.1 ∧ z.1.1 < 720) ∧ 0 ≤ z.1.2 ∧ z.1.2 ≤ 100000 := by
  intro z hz;have := (h.row j x hx).2.1 z.1;have h1 := (hB _ _ (this.1 (List.mem_map.2 ⟨z, hz, rfl⟩))).1;unfold Pu.Dl.ok dl at h1;simp only at h1
  omega
theorem l3_ev {n : Nat} (hn : 10 < n) {l1 l2 l3 t : Int} (hl : (Pu.Ln.mk l1 l2 l3).ok) (ht : 0 ≤ t) {a : Int} {K1 : Int → Int → List (Int × Int) → Int → Int → Int → List KM → Option (Int × Bool)} {r : Int × Bool} {ls : List (Int × Int)} {R : Pu.Dl → Int → Prop} {S : Nat} {xs : List KM} (h : RowsOk R S xs) {B : Int} (hB : OkQ B R) (hB1 : B ≤ 100000) (hS : S < n)
    (hF : ∀ ys, RowsOk (partQ ⟨l1, l2, l3⟩ t R 4) (12 * S) ys → (idx ls a fun x61 => cond (x61.1 != t) (chk (in64 (t + 1)) <| K1 a (t + 1) ls l1 l2 l3 ys) (ev_ref09_Fewest_l6 n 3 a t K1 n 0 ls l1 l2 l3 ys)) = some r) :
    ∀ (k m i : Nat) (ys : List KM), i + k = 4 → k < m → RowsOk (partQ ⟨l1, l2, l3⟩ t R i) (3 * S * i) ys → ev_ref09_Fewest_l3 n 3 t a K1 m (i : Int) ls l1 l2 l3 xs ys = some r := by
  intro k
  induction k with
  | zero =>
    intro m i ys hi hm hy;obtain ⟨m, rfl⟩ : ∃ m', m = m' + 1 := ⟨m - 1, by omega⟩;obtain rfl : i = 4 := by omega
    rw [ev_ref09_Fewest_l3, cond_if, if_neg (by rw [decide_eq_true_eq]; omega)];exact hF ys (hy.congr (fun _ _ _ => Iff.rfl) (by omega))
  | succ k ih =>
    intro m i ys hi hm hy;obtain ⟨m, rfl⟩ : ∃ m', m = m' + 1 := ⟨m - 1, by omega⟩;obtain ⟨x, hx⟩ := h.get (j := i) (by omega);obtain ⟨x1, x2, x3⟩ := h.row i x hx;rw [ev_ref09_Fewest_l3, cond_if, if_pos (by rw [decide_eq_true_eq]; omega), idx_nat hx];refine l4_ev hn hl ht (j := i) (by omega) (K := fun _ _ _ _ _ _ _ => none) n x _ _ ys hy (by omega) (row_ok h hB hB1 hx) fun ys' h' => ?_
    have := ih m (i + 1) ys' (by omega) (by omega) (h'.congr (fun d c _ => ?_) (by
      have : 3 * S * (i + 1) = 3 * S * i + 3 * S := by rw [Nat.mul_add, Nat.mul_one]
      omega))
    · rw [show ((i + 1 : Nat) : Int) = (i : Int) + 1 by omega] at this;exact this
    · constructor
      · rintro (⟨q, d0, hq, hR, hc⟩ | ⟨z, hz, hc⟩)
        · exact ⟨q, d0, by omega, hR, hc⟩
        · exact ⟨i, dl z.1, by omega, (x2 z.1).1 (List.mem_map.2 ⟨z, hz, rfl⟩), hc⟩
      · rintro ⟨q, d0, hq, hR, hc⟩
        by_cases e : q = i
        · subst e;obtain ⟨z, hz, hz2⟩ := List.mem_map.1 ((x2 (d0.s, d0.k)).2 hR);exact .inr ⟨z, hz, by rw [hz2]; exact hc⟩
        · exact .inl ⟨q, d0, by omega, hR, hc⟩
theorem l7_ev {n : Nat} {ls : List (Int × Int)} {a : Nat} {sn : Int × Int} (hs : ls[a]? = some sn) {l68 : List KM} {i : Nat} (hi : i < l68.length) {l1 l2 l3 : Int} {K6 : Int → List (Int × Int) → Int → Int → Int → List KM → Option (Int × Bool)} {r : Int × Bool} (hi4 : i < 4) : ∀ (m : Nat) (L cur : KM), (cur.map (·.1)).Nodup → L.length < m →
    (∀ cur' : KM, (cur'.map (·.1)).Nodup → (∀ d, d ∈ cur'.map (·.1) ↔ d ∈ cur.map (·.1) ∧ (d ∈ L.map (·.1) → d.1 = sn.2)) → cur'.length ≤ cur.length → K6 ((i : Int) + 1) ls l1 l2 l3 (l68.set i cur') = some r) → ev_ref09_Fewest_l7 n a l68 i K6 m ls l1 l2 l3 cur L = some r := by
  intro m
  induction m with
  | zero => intro L cur _ hm; omega
  | succ m ih =>
    intro L cur nd hm hK;rw [ev_ref09_Fewest_l7];have tn : ((i : Int)).toNat = i := Int.toNat_natCast i;refine nextAll_of (fun h0 => ?_) (fun j hj => ?_)
    · subst h0;rw [chk_of (in64_of (by omega))];simp only [tn];exact hK cur nd (fun d => by simp) (Nat.le_refl _)
    · have hperm := erase_perm hj;have hmem : ∀ x, x ∈ L ↔ x = L[j] ∨ x ∈ L.eraseIdx j := fun x => by rw [← hperm.mem_iff, List.mem_cons]
      have hle : L.length = (L.eraseIdx j).length + 1 := by rw [← hperm.length_eq, List.length_cons]
      obtain ⟨x, hxe⟩ : ∃ x, x = L[j] := ⟨_, rfl⟩;rw [← hxe] at hmem ⊢;have hkm : ∀ d : Int × Int, d ∈ L.map (·.1) ↔ d = x.1 ∨ d ∈ (L.eraseIdx j).map (·.1) := fun d => by
        simp only [List.mem_map]
        constructor
        · rintro ⟨z, hz, rfl⟩
          rcases (hmem z).1 hz with rfl | hz
          · exact .inl rfl
          · exact .inr ⟨z, hz, rfl⟩
        · rintro (rfl | ⟨z, hz, rfl⟩)
          · exact ⟨x, (hmem x).2 (.inl rfl), rfl⟩
          · exact ⟨z, (hmem z).2 (.inr hz), rfl⟩
      rw [idx_nat hs, cond_if]
      by_cases c : x.1.1 = sn.2
      · rw [if_neg (by simp [c])];refine ih _ cur nd (by omega) fun cur' n' h' s' => hK cur' n' (fun d => (h' d).trans ⟨fun q => ⟨q.1, fun q2 => ((hkm d).1 q2).elim (fun e => by rw [e]; exact c) q.2⟩, fun q => ⟨q.1, fun q2 => q.2 ((hkm d).2 (.inr q2))⟩⟩) s'
      · rw [if_pos (by simpa using c), idx_nat (List.getElem?_eq_getElem hi)];have hd : ∀ d, d ∈ (mdel cur x.1).map (·.1) ↔ d ∈ cur.map (·.1) ∧ d ≠ x.1 := fun d => by
          rw [mdel_filter nd];simp only [List.mem_map, List.mem_filter]
          constructor
          · rintro ⟨z, ⟨h1, h2⟩, rfl⟩; exact ⟨⟨z, h1, rfl⟩, by simpa using h2⟩
          · rintro ⟨⟨z, h1, rfl⟩, h2⟩; exact ⟨z, ⟨h1, by simpa using h2⟩, rfl⟩
        have hlen : (mdel cur x.1).length ≤ cur.length := by rw [mdel_filter nd]; exact List.length_filter_le _ _
        refine ih _ (mdel cur x.1) (nodup_del nd x.1) (by omega) fun cur' n' h' s' => hK cur' n' (fun d => (h' d).trans ⟨fun q => ⟨((hd d).1 q.1).1, fun q2 => ((hkm d).1 q2).elim (fun e => absurd e ((hd d).1 q.1).2) q.2⟩, fun q => ⟨(hd d).2 ⟨q.1, fun e => c (by have := q.2 ((hkm d).2 (.inl e)); rw [e] at this; exact this)⟩, fun q2 => q.2 ((hkm d).2 (.inr q2))⟩⟩) (by omega)
theorem l6_ev {n : Nat} {l1 l2 l3 t : Int} {a : Nat} (ha : a ≤ 100) (ht : 0 ≤ t ∧ t ≤ 1000000) {K1 : Int → Int → List (Int × Int) → Int → Int → Int → List KM → Option (Int × Bool)} {r : Int × Bool} {ls : List (Int × Int)} {sn : Int × Int} (hs : ls[a]? = some sn) {R : Pu.Dl → Int → Prop} {S : Nat} (hS : S < n)
    (hF : ∀ ys, RowsOk (filtQ sn.2 R) S ys → K1 ((a : Int) + 1) (t + 1) ls l1 l2 l3 ys = some r) :
    ∀ (k m i : Nat) (ys : List KM), i + k = 4 → k < m → RowsOk (fun d c => R d c ∧ (c < (i : Int) → d.s = sn.2)) S ys → ev_ref09_Fewest_l6 n 3 a t K1 m (i : Int) ls l1 l2 l3 ys = some r := by
  intro k
  induction k with
  | zero =>
    intro m i ys hi hm hy;obtain ⟨m, rfl⟩ : ∃ m', m = m' + 1 := ⟨m - 1, by omega⟩;obtain rfl : i = 4 := by omega
    rw [ev_ref09_Fewest_l6, cond_if, if_neg (by rw [decide_eq_true_eq]; omega), chk_of (in64_of (by omega)), chk_of (in64_of (by omega))];exact hF ys (hy.congr (fun d c hc => and_congr_right fun _ => ⟨fun q => q (by omega), fun q _ => q⟩) (Nat.le_refl _))
  | succ k ih =>
    intro m i ys hi hm hy;obtain ⟨m, rfl⟩ : ∃ m', m = m' + 1 := ⟨m - 1, by omega⟩;obtain ⟨x, hx⟩ := hy.get (j := i) (by omega);obtain ⟨x1, x2, x3⟩ := hy.row i x hx;have hlt := (List.getElem?_eq_some_iff.1 hx).1;rw [ev_ref09_Fewest_l6, cond_if, if_pos (by rw [decide_eq_true_eq]; omega), idx_nat hx];refine l7_ev hs hlt (by omega) n x x x1 (by omega) fun cur' n' h' s' => ?_
    have := ih m (i + 1) (ys.set i cur') (by omega) (by omega) ⟨by rw [List.length_set]; exact hy.len, fun j y hyj => ?_⟩
    · rw [show ((i + 1 : Nat) : Int) = (i : Int) + 1 by omega] at this;exact this
    · rw [List.getElem?_set] at hyj
      by_cases e : i = j
      · subst e;rw [if_pos rfl, if_pos hlt] at hyj;cases hyj;refine ⟨n', fun d => (h' d).trans ⟨fun q => ⟨((x2 d).1 q.1).1, fun _ => q.2 q.1⟩, fun q => ?_⟩, by omega⟩;exact ⟨(x2 d).2 ⟨q.1, fun z => absurd z (by omega)⟩, fun _ => q.2 (by omega)⟩
      · rw [if_neg e] at hyj;obtain ⟨y1, y2, y3⟩ := hy.row j y hyj;exact ⟨y1, fun d => (y2 d).trans (and_congr_right fun _ => ⟨fun q z => q (by omega), fun q z => q (by omega)⟩), y3⟩
theorem l2_ev {n : Nat} (hn : 10 < n) {l1 l2 l3 t : Int} {a : Int} {K1 : Int → Int → List (Int × Int) → Int → Int → Int → List KM → Option (Int × Bool)} {ls : List (Int × Int)} {xs : List KM} : ev_ref09_Fewest_l2 n 3 t a K1 n 0 ls l1 l2 l3 xs [] = ev_ref09_Fewest_l3 n 3 t a K1 n 0 ls l1 l2 l3 xs [[], [], [], []] := by
  have key : ∀ m, ev_ref09_Fewest_l2 n 3 t a K1 (m + 1 + 1 + 1 + 1 + 1) 0 ls l1 l2 l3 xs [] = ev_ref09_Fewest_l3 n 3 t a K1 n 0 ls l1 l2 l3 xs [[], [], [], []] := by
    intro m;rw [ev_ref09_Fewest_l2, cond_if, if_pos (by decide), chk_of (room_iff.2 (by simp)), chk_of (by decide),
      ev_ref09_Fewest_l2, cond_if, if_pos (by decide), chk_of (room_iff.2 (by simp)), chk_of (by decide),
      ev_ref09_Fewest_l2, cond_if, if_pos (by decide), chk_of (room_iff.2 (by simp)), chk_of (by decide),
      ev_ref09_Fewest_l2, cond_if, if_pos (by decide), chk_of (room_iff.2 (by simp)), chk_of (by decide),
      ev_ref09_Fewest_l2, cond_if, if_neg (by decide)]
    rfl
  obtain ⟨m, hm⟩ : ∃ m, n = m + 1 + 1 + 1 + 1 + 1 := ⟨n - 5, by omega⟩;have := key m;rw [← hm] at this;exact this
def seenQ (l : Pu.Ln) (R : Pu.Dl → Int → Prop) (t : Int) : List (Int × Int) → Pu.Dl → Int → Prop
  | [] => R
  | x :: rest => seenQ l (filtQ x.2 (stepsQ l t R (x.1 - t).toNat)) x.1 rest
theorem OkQ.steps {R : Pu.Dl → Int → Prop} {l : Pu.Ln} {t B : Int} (h : OkQ B R) (hB : 0 ≤ B) : ∀ n : Nat, OkQ (B + 2 * n) (stepsQ l t R n)
  | 0 => by simpa [stepsQ] using h
  | n + 1 => by
    have := (OkQ.steps (l := l) (t := t) h hB n).step (l := l) (t := t + n + 1) (by omega);intro d c hc;have := this d c hc;unfold Pu.Dl.ok at *
    omega
def AscQ (last : Int) : Int → List (Int × Int) → Prop
  | _, [] => True
  | t, x :: rest => t < x.1 ∧ x.1 ≤ last ∧ AscQ last x.1 rest
theorem l1_ev {n : Nat} (hn : 10 < n) {l1 l2 l3 last : Int} (hl : (Pu.Ln.mk l1 l2 l3).ok) (hlast : last ≤ 200000) {ls : List (Int × Int)} (hls : ls.length ≤ 100) {r : Int × Bool} {NB : Nat} (hNB : NB < n) :
    ∀ (N m : Nat) (a j : Nat) (t0 B : Int) (R : Pu.Dl → Int → Prop) (S : Nat) (xs : List KM), last - (t0 + j) ≤ N → N < m → a ≤ ls.length → 0 ≤ t0 → AscQ last t0 (ls.drop a) → (∀ x, ls[a]? = some x → t0 + j < x.1) → (a = ls.length → j = 0) → OkQ B R → 0 ≤ B → B + 2 * j + 2 * N ≤ 1000 → t0 + j ≤ 200000 → RowsOk (stepsQ ⟨l1, l2, l3⟩ t0 R j) S xs → S * 12 ^ N ≤ NB →
    (∀ xs S, RowsOk (seenQ ⟨l1, l2, l3⟩ R t0 (ls.drop a)) S xs → ev_ref09_Fewest_l8 n 3 xs n 0 = some r) →
    ev_ref09_Fewest_l1 n 3 m (a : Int) (t0 + j + 1) ls l1 l2 l3 xs = some r := by
  intro N
  induction N with
  | zero =>
    intro m a j t0 B R S xs hN hm ha ht hasc hnx hj0 hB hB0 hB1 ht1 hxs hS hF;obtain ⟨m, rfl⟩ : ∃ m', m = m' + 1 := ⟨m - 1, by omega⟩;rcases Nat.lt_or_ge a ls.length with c | c
    · have hx : ls[a]? = some ls[a] := List.getElem?_eq_getElem c;have h1 := hnx _ hx;rw [List.drop_eq_getElem_cons c] at hasc;have := hasc.2.1
      omega
    · have hj := hj0 (by omega);subst hj;rw [ev_ref09_Fewest_l1, cond_if, if_neg (by rw [decide_eq_true_eq]; omega)];refine hF xs S ?_;rw [List.drop_eq_nil_of_le c];exact hxs
  | succ N ih =>
    intro m a j t0 B R S xs hN hm ha ht hasc hnx hj0 hB hB0 hB1 ht1 hxs hS hF;obtain ⟨m, rfl⟩ : ∃ m', m = m' + 1 := ⟨m - 1, by omega⟩;rcases Nat.lt_or_ge a ls.length with c | c
    · have hx : ls[a]? = some ls[a] := List.getElem?_eq_getElem c;have h1 := hnx _ hx;have hdr := List.drop_eq_getElem_cons c;rw [hdr] at hasc;obtain ⟨c1, c2, c3⟩ := hasc;obtain ⟨x, hxe⟩ : ∃ x, x = ls[a] := ⟨_, rfl⟩;rw [← hxe] at hx h1 c1 c2 c3 hdr;have hp12 : 1 ≤ 12 ^ N := Nat.one_le_pow _ _ (by decide);have hS12 : 12 * S * 12 ^ N ≤ NB := by rw [Nat.pow_succ, ← Nat.mul_assoc] at hS; rw [Nat.mul_comm 12 S, Nat.mul_right_comm]; exact hS
      have hSn : 12 * S ≤ NB := Nat.le_trans (Nat.le_mul_of_pos_right _ hp12) hS12;rw [ev_ref09_Fewest_l1, cond_if, if_pos (by rw [decide_eq_true_eq]; omega), l2_ev hn];have hBs := OkQ.steps (l := ⟨l1, l2, l3⟩) (t := t0) hB hB0 j;refine l3_ev hn hl (by omega) hxs hBs (by omega) (by omega) (fun ys hy => ?_) 4 n 0 [[], [], [], []] (by omega) (by omega) ⟨rfl, fun i y hy => ?_⟩
      · have hy2 : RowsOk (stepsQ ⟨l1, l2, l3⟩ t0 R (j + 1)) (12 * S) ys := hy.congr (fun d c hc => part_step hBs d c hc) (Nat.le_refl _);have hB2 : OkQ (B + 2 * (j + 1 : Nat)) (stepsQ ⟨l1, l2, l3⟩ t0 R (j + 1)) := OkQ.steps hB hB0 (j + 1);rw [idx_nat hx, cond_if]
        by_cases e : x.1 = t0 + j + 1
        · rw [if_neg (by simp [e])];have ht2 : (x.1 - t0).toNat = j + 1 := by omega
          refine l6_ev (a := a) (by omega) (by omega) hx (R := stepsQ ⟨l1, l2, l3⟩ t0 R (j + 1)) (S := 12 * S) (by omega) (fun ys2 h2 => ?_) 4 n 0 ys (by omega) (by omega) (hy2.congr (fun d c _ => ⟨fun q => ⟨q, fun z => absurd z (by omega)⟩, fun q => q.1⟩) (Nat.le_refl _));have := ih m (a + 1) 0 x.1 (B + 2 * (j + 1 : Nat)) (filtQ x.2 (stepsQ ⟨l1, l2, l3⟩ t0 R (j + 1))) (12 * S) ys2 (by omega) (by omega) (by omega) (by omega) c3 (fun y hy => ?_) (fun _ => rfl) hB2.filt (by omega) (by omega) (by omega) h2 hS12 (fun xs' S' h' => ?_)
          · rw [show ((a + 1 : Nat) : Int) = (a : Int) + 1 by omega, show x.1 + ((0 : Nat) : Int) + 1 = t0 + j + 1 + 1 by omega] at this;exact this
          · have hlt := (List.getElem?_eq_some_iff.1 hy).1;rw [List.drop_eq_getElem_cons hlt] at c3;have := c3.1;rw [List.getElem?_eq_getElem hlt] at hy;cases hy
            omega
          · refine hF xs' S' ?_;rw [hdr];unfold seenQ;rw [ht2];exact h'
        · rw [if_pos (by simpa using e), chk_of (in64_of (by omega))];have := ih m a (j + 1) t0 B R (12 * S) ys (by omega) (by omega) ha ht (by rw [hdr]; exact ⟨c1, c2, c3⟩) (fun y hy => by rw [hx] at hy; cases hy; omega) (fun q => by omega) hB hB0 (by omega) (by omega) hy2 hS12 hF;rw [show t0 + ((j + 1 : Nat) : Int) + 1 = t0 + j + 1 + 1 by omega] at this;exact this
      · have hyn : y = [] := by
          rcases i with _ | _ | _ | _ | i <;> simp at hy <;> exact hy
        subst hyn;exact ⟨by simp, fun d => by simp [partQ], by simp⟩
    · have hj := hj0 (by omega);subst hj;rw [ev_ref09_Fewest_l1, cond_if, if_neg (by rw [decide_eq_true_eq]; omega)];refine hF xs S ?_;rw [List.drop_eq_nil_of_le c];exact hxs
theorem l8_found {n : Nat} {R : Pu.Dl → Int → Prop} {S : Nat} {xs : List KM} (h : RowsOk R S xs) {n0 : Nat} (hn0 : n0 < 4) (hd : ∃ d, R d n0) (hmin : ∀ d (c : Nat), R d c → n0 ≤ c) : ∀ (k m i : Nat), i + k = n0 → k < m → ev_ref09_Fewest_l8 n 3 xs m (i : Int) = some ((n0 : Int), true) := by
  intro k
  induction k with
  | zero =>
    intro m i hi hm;obtain ⟨m, rfl⟩ : ∃ m', m = m' + 1 := ⟨m - 1, by omega⟩;obtain rfl : i = n0 := by omega
    obtain ⟨x, hx⟩ := h.get hn0;obtain ⟨d, hd⟩ := hd;have := ((h.row i x hx).2.1 (d.s, d.k)).2 hd;have hpos : 0 < x.length := by
      rcases x with _ | ⟨z, x⟩
      · simp at this
      · simp
    rw [ev_ref09_Fewest_l8, cond_if, if_pos (by rw [decide_eq_true_eq]; omega), idx_nat hx, cond_if, if_pos (by rw [decide_eq_true_eq]; omega)]
  | succ k ih =>
    intro m i hi hm;obtain ⟨m, rfl⟩ : ∃ m', m = m' + 1 := ⟨m - 1, by omega⟩;obtain ⟨x, hx⟩ := h.get (j := i) (by omega);have hemp : x = [] := by
      rcases x with _ | ⟨z, x⟩
      · rfl
      · have := hmin _ _ (((h.row i _ hx).2.1 z.1).1 (by simp))
        omega
    subst hemp;have := ih m (i + 1) (by omega) (by omega);rw [show ((i + 1 : Nat) : Int) = (i : Int) + 1 by omega] at this;rw [ev_ref09_Fewest_l8, cond_if, if_pos (by rw [decide_eq_true_eq]; omega), idx_nat hx, cond_if, if_neg (by simp), chk_of (in64_of (by omega)), this]
theorem l8_none {n : Nat} {R : Pu.Dl → Int → Prop} {S : Nat} {xs : List KM} (h : RowsOk R S xs) (hno : ∀ d (c : Nat), c < 4 → ¬ R d c) : ∀ (k m i : Nat), i + k = 4 → k < m → ev_ref09_Fewest_l8 n 3 xs m (i : Int) = some (0, false) := by
  intro k
  induction k with
  | zero =>
    intro m i hi hm;obtain ⟨m, rfl⟩ : ∃ m', m = m' + 1 := ⟨m - 1, by omega⟩;rw [ev_ref09_Fewest_l8, cond_if, if_neg (by rw [decide_eq_true_eq]; omega)]
  | succ k ih =>
    intro m i hi hm;obtain ⟨m, rfl⟩ : ∃ m', m = m' + 1 := ⟨m - 1, by omega⟩;obtain ⟨x, hx⟩ := h.get (j := i) (by omega);have hemp : x = [] := by
      rcases x with _ | ⟨z, x⟩
      · rfl
      · exact absurd (((h.row i _ hx).2.1 z.1).1 (by simp)) (hno _ _ (by omega))
    subst hemp;have := ih m (i + 1) (by omega) (by omega);rw [show ((i + 1 : Nat) : Int) = (i : Int) + 1 by omega] at this;rw [ev_ref09_Fewest_l8, cond_if, if_pos (by rw [decide_eq_true_eq]; omega), idx_nat hx, cond_if, if_neg (by simp), chk_of (in64_of (by omega)), this]
def startQ (d0 : Pu.Dl) (d : Pu.Dl) (c : Int) : Prop := d = d0 ∧ c = 0
theorem few_ev {n : Nat} (hn : 12 ^ 80 < n) {l1 l2 l3 s k f last : Int} (hl : (Pu.Ln.mk l1 l2 l3).ok) (hs : 0 ≤ s ∧ s < 720) (hk : 0 ≤ k ∧ k ≤ 360) (hf : 0 ≤ f ∧ f ≤ 100000) {ls : List (Int × Int)} (hls : ls.length ≤ 100) (hlast : f ≤ last ∧ last ≤ f + 80) (hasc : AscQ last f ls) {r : Int × Bool}
    (hF : ∀ xs S, RowsOk (seenQ ⟨l1, l2, l3⟩ (startQ ⟨s, k⟩) f ls) S xs → ev_ref09_Fewest_l8 n 3 xs n 0 = some r) : ev_ref09_Fewest n l1 l2 l3 s k f ls 3 = some r := by
  have hn10 : 10 < n := Nat.lt_of_le_of_lt (by decide) hn;have h0 : RowsOk (fun _ _ => False) 0 [[], [], [], []] := ⟨rfl, fun i y hy => by
    have hyn : y = [] := by rcases i with _ | _ | _ | _ | i <;> simp at hy <;> exact hy
    subst hyn;exact ⟨by simp, fun d => by simp, by simp⟩⟩
  have h1 := (h0.put (j := 0) (x := []) rfl (s, k)).congr (T' := startQ ⟨s, k⟩) (S' := 1) (fun d c _ => ⟨fun q => q.elim False.elim fun q => ⟨q.2, q.1⟩, fun q => .inr ⟨q.2, q.1⟩⟩) (by omega);have key : ∀ m, ev_ref09_Fewest_l0 n 3 f (m + 1 + 1 + 1 + 1) 0 ls l1 l2 l3 [mputS kl88 [] (s, k) true] = ev_ref09_Fewest_l1 n 3 n 0 (f + 1) ls l1 l2 l3 [mputS kl88 [] (s, k) true, [], [], []] := by
    intro m;rw [ev_ref09_Fewest_l0, cond_if, if_pos (by decide), chk_of (room_iff.2 (by simp)), chk_of (by decide),
      ev_ref09_Fewest_l0, cond_if, if_pos (by decide), chk_of (room_iff.2 (by simp)), chk_of (by decide),
      ev_ref09_Fewest_l0, cond_if, if_pos (by decide), chk_of (room_iff.2 (by simp)), chk_of (by decide),
      ev_ref09_Fewest_l0, cond_if, if_neg (by decide), chk_of (in64_of (by omega))]
    rfl
  obtain ⟨m, hm⟩ : ∃ m, n = m + 1 + 1 + 1 + 1 := ⟨n - 4, by omega⟩;have hk2 := key m;rw [← hm] at hk2;rw [ev_ref09_Fewest, hk2];have hN : (last - f).toNat ≤ 80 := by omega
  have hpow : 12 ^ (last - f).toNat ≤ 12 ^ 80 := Nat.pow_le_pow_right (by decide) hN;have h80 : 80 < n := Nat.lt_of_le_of_lt (by decide) hn;have := l1_ev hn10 hl (last := last) (by omega) hls (r := r) (NB := 12 ^ 80) hn (last - f).toNat n 0 0 f 360 (startQ ⟨s, k⟩) 1 [mputS kl88 [] (s, k) true, [], [], []] (by omega) (by omega) (by omega) hf.1 (by simpa using hasc) (fun x hx => ?_) (fun _ => rfl) (fun d c hc => by obtain ⟨rfl, rfl⟩ := hc; exact ⟨⟨hs.1, hs.2, hk.1, hk.2⟩, by decide⟩) (by decide) (by omega) (by omega) h1 (by omega) (by simpa using hF)
  · simpa using this
  · rcases ls with _ | ⟨y, ls⟩
    · simp at hx
    · simp at hx; subst hx;have := hasc.1
      omega
end Go.Proofs.Ytjmkjlhnipnkcaa.Sy
