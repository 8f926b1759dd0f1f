/- The reference's search for the fewest faults: sets of dials, minute by minute. -/
import Derived.Test.YtjmkjlhnipnkcaaPfEvFewA
set_option linter.unusedSimpArgs false
set_option linter.unusedVariables false
namespace Go.Proofs.Ytjmkjlhnipnkcaa.Sy
open Go.RowKit
set_option maxRecDepth 100000
abbrev KM := List ((Int × Int) × Bool)
def dl (k : Int × Int) : Pu.Dl := ⟨k.1, k.2⟩
def stepQ (l : Pu.Ln) (t : Int) (R : Pu.Dl → Int → Prop) (d' : Pu.Dl) (c' : Int) : Prop :=
  ∃ d c, R d c ∧ ((d' = Pu.imp l t 1 d ∧ c' = c) ∨ (Pu.isLong l t = false ∧ c' = c + 1 ∧ (d' = Pu.imp l t 0 d ∨ d' = Pu.imp l t 2 d)))
def stepsQ (l : Pu.Ln) (t : Int) (R : Pu.Dl → Int → Prop) : Nat → Pu.Dl → Int → Prop
  | 0 => R
  | n + 1 => stepQ l (t + n + 1) (stepsQ l t R n)
def filtQ (sh : Int) (R : Pu.Dl → Int → Prop) (d : Pu.Dl) (c : Int) : Prop := R d c ∧ d.s = sh
def OkQ (B : Int) (R : Pu.Dl → Int → Prop) : Prop := ∀ d c, R d c → d.ok B ∧ 0 ≤ c
theorem OkQ.step {R : Pu.Dl → Int → Prop} {l : Pu.Ln} {t B : Int} (h : OkQ B R) (hB : 0 ≤ B) : OkQ (B + 2) (stepQ l t R) := by
  rintro d' c' ⟨d, c, hR, hx⟩
  obtain ⟨h1, h2⟩ := h d c hR;rcases hx with ⟨rfl, rfl⟩ | ⟨_, rfl, rfl | rfl⟩
  · have := Pu.imp_ok (l := l) (t := t) (m := 1) h1 hB; unfold Pu.Dl.ok at *; omega
  · have := Pu.imp_ok (l := l) (t := t) (m := 0) h1 hB; unfold Pu.Dl.ok at *; omega
  · have := Pu.imp_ok (l := l) (t := t) (m := 2) h1 hB; unfold Pu.Dl.ok at *; omega
theorem OkQ.filt {R : Pu.Dl → Int → Prop} {B sh : Int} (h : OkQ B R) : OkQ B (filtQ sh R) := fun d c hc => h d c hc.1
theorem put_kd {x : KM} (k : Int × Int) (v : Bool) (nd : (x.map (·.1)).Nodup) : (∀ d, d ∈ (mputS kl88 x k v).map (·.1) ↔ d ∈ x.map (·.1) ∨ d = k) ∧ ((mputS kl88 x k v).map (·.1)).Nodup ∧ (mputS kl88 x k v).length ≤ x.length + 1 := by
  have p := (mputS_perm kl88 k v nd).trans (mput_filter nd k v);refine ⟨fun d => ?_, ((mputS_perm kl88 k v nd).map (·.1)).nodup_iff.2 (nodup_put nd k v), ?_⟩
  · rw [(p.map (·.1)).mem_iff];simp only [List.map_cons, List.mem_cons, List.mem_map, List.mem_filter]
    constructor
    · rintro (h | ⟨a, ⟨h1, _⟩, h2⟩)
      · exact .inr h
      · exact .inl ⟨a, h1, h2⟩
    · rintro (⟨a, h1, h2⟩ | h)
      · by_cases e : d = k
        · exact .inl e
        · exact .inr ⟨a, ⟨h1, by simp [h2, e]⟩, h2⟩
      · exact .inl h
  · rw [p.length_eq];have := List.length_filter_le (fun z : (Int × Int) × Bool => !(z.1 == k)) x;simp; omega
structure RowsOk (T : Pu.Dl → Int → Prop) (S : Nat) (xs : List KM) : Prop where
  len : xs.length = 4
  row : ∀ (j : Nat) (x : KM), xs[j]? = some x → (x.map (·.1)).Nodup ∧ (∀ d, d ∈ x.map (·.1) ↔ T (dl d) j) ∧ x.length ≤ S
theorem RowsOk.congr {T T' : Pu.Dl → Int → Prop} {S S' : Nat} {xs : List KM} (h : RowsOk T S xs) (e : ∀ d (c : Nat), c < 4 → (T d c ↔ T' d c)) (hS : S ≤ S') : RowsOk T' S' xs :=
  ⟨h.len, fun j x hx => by
    obtain ⟨h1, h2, h3⟩ := h.row j x hx;have hj : j < 4 := by rw [← h.len]; exact (List.getElem?_eq_some_iff.1 hx).1
    exact ⟨h1, fun d => (h2 d).trans (e _ j hj), by omega⟩⟩
theorem RowsOk.get {T : Pu.Dl → Int → Prop} {S : Nat} {xs : List KM} (h : RowsOk T S xs) {j : Nat} (hj : j < 4) : ∃ x, xs[j]? = some x := ⟨_, List.getElem?_eq_getElem (by rw [h.len]; exact hj)⟩
theorem RowsOk.put {T : Pu.Dl → Int → Prop} {S : Nat} {xs : List KM} (h : RowsOk T S xs) {j : Nat} {x : KM} (hx : xs[j]? = some x) (k : Int × Int) : RowsOk (fun d c => T d c ∨ (c = j ∧ d = dl k)) (S + 1) (xs.set j (mputS kl88 x k true)) := by
  refine ⟨by rw [List.length_set]; exact h.len, fun i y hy => ?_⟩;have hlt := (List.getElem?_eq_some_iff.1 hx).1;rw [List.getElem?_set] at hy
  by_cases e : j = i
  · subst e;rw [if_pos rfl, if_pos hlt] at hy;cases hy;obtain ⟨h1, h2, h3⟩ := h.row j x hx;obtain ⟨p1, p2, p3⟩ := put_kd k true h1;refine ⟨p2, fun d => (p1 d).trans ((or_congr (h2 d) ⟨fun e => ⟨rfl, by rw [e]⟩, fun e => ?_⟩)), by omega⟩;have := e.2;unfold dl at this;simp only [Pu.Dl.mk.injEq] at this;exact Prod.ext this.1 this.2
  · rw [if_neg e] at hy;obtain ⟨h1, h2, h3⟩ := h.row i y hy;exact ⟨h1, fun d => (h2 d).trans ⟨.inl, fun h => h.elim id fun q => absurd q.1 (by omega)⟩, by omega⟩
def Con (l : Pu.Ln) (t : Int) (j : Nat) (d d' : Pu.Dl) (c' : Int) : Prop :=
  (d' = Pu.imp l t 1 d ∧ c' = j) ∨ (j < 3 ∧ Pu.isLong l t = false ∧ c' = (j : Int) + 1 ∧ (d' = Pu.imp l t 0 d ∨ d' = Pu.imp l t 2 d))
theorem l4_ev {n : Nat} (hn : 10 < n) {l1 l2 l3 t : Int} (hl : (Pu.Ln.mk l1 l2 l3).ok) (ht : 0 ≤ t) {j : Nat} (hj : j < 4) {K : List (Int × Int) → Int → Int → Int → List KM → List KM → KM → Option (Int × Bool)} {K3 : Int → List (Int × Int) → Int → Int → Int → List KM → List KM → Option (Int × Bool)} {r : Int × Bool} {ls : List (Int × Int)} {l43 : List KM} : ∀ (m : Nat) (L : KM) (T : Pu.Dl → Int → Prop) (S : Nat) (ys : List KM), RowsOk T S ys → L.length < m → (∀ x ∈ L, (0 ≤ x.1.1 ∧ x.1.1 < 720) ∧ 0 ≤ x.1.2 ∧ x.1.2 ≤ 100000) →
    (∀ ys', RowsOk (fun d c => T d c ∨ ∃ x ∈ L, Con ⟨l1, l2, l3⟩ t j (dl x.1) d c) (S + 3 * L.length) ys' → K3 ((j : Int) + 1) ls l1 l2 l3 l43 ys' = some r) → ev_ref09_Fewest_l4 n j t 3 K3 m ls l1 l2 l3 l43 ys L = some r := by
  intro m
  induction m with
  | zero => intro L T S ys _ hm; omega
  | succ m ih =>
    intro L T S ys h hm hx hK;rw [ev_ref09_Fewest_l4];refine nextAll_of (fun h0 => ?_) (fun i hi => ?_)
    · subst h0;rw [chk_of (in64_of (by omega))];exact hK ys (h.congr (fun d c _ => by simp) (by simp))
    · have hperm := erase_perm hi;have hmem : ∀ x, x ∈ L ↔ x = L[i] ∨ x ∈ L.eraseIdx i := fun x => by rw [← hperm.mem_iff, List.mem_cons]
      have hle : L.length = (L.eraseIdx i).length + 1 := by rw [← hperm.length_eq, List.length_cons]
      obtain ⟨x, hxe⟩ : ∃ x, x = L[i] := ⟨_, rfl⟩;rw [← hxe] at hmem ⊢;obtain ⟨b1, b2⟩ := hx x ((hmem x).2 (.inl rfl));have hx' : ∀ z ∈ L.eraseIdx i, (0 ≤ z.1.1 ∧ z.1.1 < 720) ∧ 0 ≤ z.1.2 ∧ z.1.2 ≤ 100000 := fun z hz => hx z ((hmem z).2 (.inr hz))
      obtain ⟨y, hy⟩ := h.get hj;have i1 : ev_ref09_Dial_Impulse n x.1.1 x.1.2 l1 l2 l3 t 1 = _ := impulse_ev hn hl ht b1 b2 1 (by omega);have i0 : ev_ref09_Dial_Impulse n x.1.1 x.1.2 l1 l2 l3 t 0 = _ := impulse_ev hn hl ht b1 b2 0 (by omega);have i2 : ev_ref09_Dial_Impulse n x.1.1 x.1.2 l1 l2 l3 t 2 = _ := impulse_ev hn hl ht b1 b2 2 (by omega);have h1 := h.put hy ((Pu.imp ⟨l1, l2, l3⟩ t 1 ⟨x.1.1, x.1.2⟩).s, (Pu.imp ⟨l1, l2, l3⟩ t 1 ⟨x.1.1, x.1.2⟩).k);have tn : ((j : Int)).toNat = j := Int.toNat_natCast j;have hone : ∀ (hno : ¬ (j < 3 ∧ Pu.isLong ⟨l1, l2, l3⟩ t = false)), ev_ref09_Fewest_l4 n j t 3 K3 m ls l1 l2 l3 l43 (ys.set j (mputS kl88 y ((Pu.imp ⟨l1, l2, l3⟩ t 1 ⟨x.1.1, x.1.2⟩).s, (Pu.imp ⟨l1, l2, l3⟩ t 1 ⟨x.1.1, x.1.2⟩).k) true)) (L.eraseIdx i) = some r := by
        intro hno;refine ih _ _ _ _ h1 (by omega) hx' fun ys' h' => hK ys' (h'.congr (fun d c _ => ?_) (by omega))
        constructor
        · rintro ((q | q) | ⟨z, hz, q⟩)
          · exact .inl q
          · exact .inr ⟨x, (hmem x).2 (.inl rfl), .inl ⟨q.2, q.1⟩⟩
          · exact .inr ⟨z, (hmem z).2 (.inr hz), q⟩
        · rintro (q | ⟨z, hz, q⟩)
          · exact .inl (.inl q)
          · rcases (hmem z).1 hz with rfl | hz
            · rcases q with q | q
              · exact .inl (.inr ⟨q.2, q.1⟩)
              · exact absurd ⟨q.1, q.2.1⟩ hno
            · exact .inr ⟨z, hz, q⟩
      rw [idx_nat hy, bind_of i1];simp only [tn];rw [cond_if]
      by_cases hj3 : j < 3
      · rw [if_pos (by rw [decide_eq_true_eq]; omega), bind_of (long9_ev hl ht), cond_if]
        by_cases hlong : Pu.isLong ⟨l1, l2, l3⟩ t = false
        · rw [if_pos (by simp [hlong]), ev_ref09_Fewest_j5];obtain ⟨y2, hy2⟩ := h1.get (j := j + 1) (by omega);have h2 := h1.put hy2 ((Pu.imp ⟨l1, l2, l3⟩ t 0 ⟨x.1.1, x.1.2⟩).s, (Pu.imp ⟨l1, l2, l3⟩ t 0 ⟨x.1.1, x.1.2⟩).k);obtain ⟨y3, hy3⟩ := h2.get (j := j + 1) (by omega);have h3 := h2.put hy3 ((Pu.imp ⟨l1, l2, l3⟩ t 2 ⟨x.1.1, x.1.2⟩).s, (Pu.imp ⟨l1, l2, l3⟩ t 2 ⟨x.1.1, x.1.2⟩).k);have ej : (j : Int) + 1 = ((j + 1 : Nat) : Int) := by omega
          have tn1 : ((j + 1 : Nat) : Int).toNat = j + 1 := Int.toNat_natCast (j + 1);simp only [tn, ej, tn1];rw [idx_nat hy2, chk_of (in64_of (by omega)), bind_of i0];rw [idx_nat hy3, chk_of (in64_of (by omega)), bind_of i2];refine ih _ _ _ _ h3 (by omega) hx' fun ys' h' => by
            rw [ej] at hK;refine hK ys' (h'.congr (fun d c _ => ?_) (by omega))
            constructor
            · rintro ((((q | q) | q) | q) | ⟨z, hz, q⟩)
              · exact .inl q
              · exact .inr ⟨x, (hmem x).2 (.inl rfl), .inl ⟨q.2, q.1⟩⟩
              · exact .inr ⟨x, (hmem x).2 (.inl rfl), .inr ⟨hj3, hlong, by rw [q.1]; omega, .inl q.2⟩⟩
              · exact .inr ⟨x, (hmem x).2 (.inl rfl), .inr ⟨hj3, hlong, by rw [q.1]; omega, .inr q.2⟩⟩
              · exact .inr ⟨z, (hmem z).2 (.inr hz), q⟩
            · rintro (q | ⟨z, hz, q⟩)
              · exact .inl (.inl (.inl (.inl q)))
              · rcases (hmem z).1 hz with rfl | hz
                · rcases q with q | ⟨_, _, q1, q | q⟩
                  · exact .inl (.inl (.inl (.inr ⟨q.2, q.1⟩)))
                  · exact .inl (.inl (.inr ⟨by rw [q1]; omega, q⟩))
                  · exact .inl (.inr ⟨by rw [q1]; omega, q⟩)
                · exact .inr ⟨z, hz, q⟩
        · rw [if_neg (by simpa using hlong)];exact hone fun q => hlong q.2
      · rw [if_neg (by rw [decide_eq_true_eq]; omega)];exact hone fun q => hj3 q.1
end Go.Proofs.Ytjmkjlhnipnkcaa.Sy
