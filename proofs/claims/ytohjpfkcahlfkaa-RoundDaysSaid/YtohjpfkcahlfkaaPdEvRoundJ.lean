/- Rounds: the error of any winding days; when a tower was wound last; the first that stops. -/
import Derived.Test.YtohjpfkcahlfkaaPdEvRoundA
import Derived.Test.YtohjpfkcahlfkaaPdEvRoundH
set_option linter.unusedSimpArgs false
set_option linter.unusedVariables false
namespace Go.Proofs.Ytohjpfkcahlfkaa.Sy
open Go.RowKit
set_option maxRecDepth 100000
theorem compact_nd {s : List Int} (hs : s.Pairwise (· ≤ ·)) (h : ¬ (Lib.compact s).length < s.length) : s.Pairwise (· < ·) := by
  unfold Lib.compact Lib.compactUpTo at h
  rw [List.length_map] at h
  have hle := List.length_filter_le (Lib.keeps s.toArray) (List.range s.length)
  rw [List.length_range] at hle
  have heq : ((List.range s.length).filter (Lib.keeps s.toArray)).length = (List.range s.length).length := by rw [List.length_range]; omega
  rw [List.length_filter_eq_length_iff] at heq
  rw [List.pairwise_iff_getElem]
  intro i j hi hj hij
  obtain ⟨j, rfl⟩ : ∃ j', j = j' + 1 := ⟨j - 1, by omega⟩
  have hk := heq (j + 1) (List.mem_range.2 hj)
  unfold Lib.keeps at hk
  have h1 : s[j] ≤ s[j + 1] := List.pairwise_iff_getElem.1 hs j (j + 1) (by omega) hj (by omega)
  have h2 : s[i] ≤ s[j] := by
    by_cases e : i = j
    · subst e; exact Int.le_refl _
    · exact List.pairwise_iff_getElem.1 hs i j (by omega) (by omega) (by omega)
  have h3 : s[j] ≠ s[j + 1] := by
    have := hk
    simp [hj, show j < s.length by omega] at this
    exact fun e => this e.symm
  omega
theorem compact_lt {l : List Int} : decide ((Lib.compact (srt l)).length < l.length) = !decide l.Nodup := by
  rw [Bool.eq_iff_iff]
  simp only [decide_eq_true_eq, Bool.not_eq_true', decide_eq_false_iff_not]
  have hl : (srt l).length = l.length := (srt_perm l).length_eq
  constructor
  · intro h hn
    rw [compact_asc (srt_asc hn), hl] at h
    omega
  · intro hn
    by_cases h : (Lib.compact (srt l)).length < l.length
    · exact h
    · exfalso
      rw [← hl] at h
      have h2 := compact_nd (srt_sorted l) h
      have h3 : (srt l).Nodup := h2.imp fun h => by omega
      exact hn ((srt_perm l).nodup_iff.1 h3)
def dayB (k : Nat) (p : Int) (d : Dy) : Bool := btw (p + 1) 36524 d.1 && ((d.2.all fun z => btw 0 ((k : Int) - 1) z) && decide d.2.Nodup)
def daysB (k : Nat) : Int → List Dy → Bool
  | _, [] => true
  | p, d :: l => dayB k p d && daysB k d.1 l
theorem daysB_low {k : Nat} : ∀ (ds : List Dy) (p : Int), daysB k p ds = true → ∀ d ∈ ds, p < d.1
  | [], _, _, d, h => by simp at h
  | x :: l, p, hb, d, h => by
    rw [daysB, Bool.and_eq_true, dayB, Bool.and_eq_true, btw_iff] at hb
    rcases List.mem_cons.1 h with rfl | h
    · omega
    · have := daysB_low l x.1 hb.2 d h; omega
theorem daysB_ok {k : Nat} : ∀ (ds : List Dy) (p : Int), 0 ≤ p → daysB k p ds = true → ds.Pairwise (fun a b => a.1 < b.1) ∧ (∀ d ∈ ds, 1 ≤ d.1 ∧ d.1 ≤ 36524) ∧ (∀ d ∈ ds, ∀ x ∈ d.2, 0 ≤ x ∧ x < k) ∧ (∀ d ∈ ds, d.2.Nodup)
  | [], _, _, _ => by simp
  | x :: l, p, hp, hb => by
    rw [daysB, Bool.and_eq_true] at hb
    have h1 := hb.1
    rw [dayB, Bool.and_eq_true, btw_iff, Bool.and_eq_true, decide_eq_true_eq, List.all_eq_true] at h1
    obtain ⟨i1, i2, i3, i4⟩ := daysB_ok l x.1 (by omega) hb.2
    refine ⟨List.pairwise_cons.2 ⟨daysB_low l x.1 hb.2, i1⟩, fun d hd => ?_, fun d hd => ?_, fun d hd => ?_⟩
    · rcases List.mem_cons.1 hd with rfl | hd
      · omega
      · exact i2 d hd
    · rcases List.mem_cons.1 hd with rfl | hd
      · intro z hz; have := btw_iff.1 (h1.2.1 z hz); omega
      · exact i3 d hd
    · rcases List.mem_cons.1 hd with rfl | hd
      · exact h1.2.2
      · exact i4 d hd
def daysP (k : Nat) (ds : List Dy) : Int := if 400 < ds.length then 5 else if daysB k 0 ds = true then 0 else 2
theorem daysP_ok {k : Nat} {ds : List Dy} (hs : ∀ d ∈ ds, d.2.length ≤ 100) (h : daysP k ds = 0) : OkDs k ds := by
  unfold daysP at h
  split at h
  · cases h
  · split at h
    · rename_i h1 h2
      obtain ⟨a, b, c, d⟩ := daysB_ok ds 0 (by decide) h2
      exact ⟨a, b, c, d, hs, by omega⟩
    · cases h
theorem days_any {n : Nat} (hn : 2000 < n) {t : List Tw} {w : List (List Int)} {g : List Wd} {rest wage : Int} (ht : t.length ≤ 8) {ds : List Dy} (hs : ∀ d ∈ ds, d.2.length ≤ 100) (hl : ds.length ≤ 1000) (h64 : ∀ d ∈ ds, -9223372036854775808 ≤ d.1 ∧ d.1 ≤ 9223372036854775807) : ev_round_checkDays n t w g rest wage ds = some (daysP t.length ds) := by
  have key : ∀ (k m i : Nat) (p : Int), i + k = ds.length → k < m → 0 ≤ p → p ≤ 36524 → ev_round_checkDays_l0 n ds m p (i : Int) rest wage ds t w g = some (if daysB t.length p (ds.drop i) = true then 0 else 2) := by
    intro k
    induction k with
    | zero =>
      intro m i p hi hm h0 h1
      obtain ⟨m, rfl⟩ : ∃ m', m = m' + 1 := ⟨m - 1, by omega⟩
      rw [ev_round_checkDays_l0, cond_if, if_neg (by simp; omega), List.drop_eq_nil_of_le (by omega), daysB, if_pos rfl]
    | succ k ih =>
      intro m i p hi hm h0 h1
      obtain ⟨m, rfl⟩ : ∃ m', m = m' + 1 := ⟨m - 1, by omega⟩
      have hlt : i < ds.length := by omega
      have hm2 := List.getElem_mem hlt
      have hsh := hs _ hm2
      have hv : ev_slices_Values_Lint_int n ds[i].2 = some ds[i].2 := rfl
      have hsl : (srt ds[i].2).length = ds[i].2.length := (srt_perm _).length_eq
      have hc : ev_slices_Compact_Lint_int n (srt ds[i].2) = some (Lib.compact (srt ds[i].2)) := by
        rw [ev_slices_Compact_Lint_int, chk_of (room_iff.2 (by omega))]
      rw [ev_round_checkDays_l0, cond_if, if_pos (decide_eq_true (by omega)), idx_nat (List.getElem?_eq_getElem hlt), chk_of (in64_of (by omega)), bind_of (wi1_round (by omega)), List.drop_eq_getElem_cons hlt, daysB, dayB, show (decide (p + 1 ≤ ds[i].1) && decide (ds[i].1 ≤ 36524)) = btw (p + 1) 36524 ds[i].1 from rfl]
      by_cases hb : btw (p + 1) 36524 ds[i].1 = true
      · have hb2 := btw_iff.1 hb
        rw [hb, cond_if, if_neg (by simp), chk_of (in64_of (by omega)), bind_of (wi_round (by omega) (by omega)), show (ds[i].2.all fun z => decide ((0 : Int) ≤ z) && decide (z ≤ (t.length : Int) - 1)) = (ds[i].2.all fun z => btw 0 ((t.length : Int) - 1) z) from rfl]
        cases ds[i].2.all fun z => btw 0 ((t.length : Int) - 1) z
        · rfl
        · have hcl : decide (((Lib.compact (srt ds[i].2)).length : Int) < (ds[i].2.length : Int)) = !decide ds[i].2.Nodup := by
            rw [← compact_lt, decide_eq_decide]; omega
          rw [cond_if, if_neg (by simp), ev_round_checkDays_j1, bind_of hv, bind_of (sorted_ev (by omega) (by omega)), bind_of hc, hcl]
          cases decide ds[i].2.Nodup
          · rfl
          · rw [cond_if, if_neg (by simp), chk_of (in64_of (by omega))]
            exact ih m (i + 1) ds[i].1 (by omega) (by omega) (by omega) (by omega)
      · rw [cond_if, if_pos (by simpa using hb), if_neg (by simp [hb])]
  rw [ev_round_checkDays, cond_if, daysP]
  by_cases h : 400 < ds.length
  · rw [if_pos (decide_eq_true (by omega)), if_pos h]
  · rw [if_neg (by simp; omega), if_neg h]
    have := key ds.length n 0 0 (by omega) (by omega) (by decide) (by decide)
    rw [List.drop_zero] at this
    exact this
theorem refDays_any {n : Nat} (hn : 2000 < n) {t : List Tw} {w : List (List Int)} {g : List Wd} {rest wage : Int} (ht : t.length ≤ 8) {ds : List Dy} (hs : ∀ d ∈ ds, d.2.length ≤ 100) (hl : ds.length ≤ 1000) : ev_ref11_Days n t w g rest wage ds = some (daysP t.length ds) := by
  have l2 : ∀ (i : Nat) (l : List Int) (d : Int) (kk : Int → (List (Int × (List Int))) → Int → Int → (List (Int × Int × Int × Int × Int)) → (List ((List Int))) → (List (Int × Int × Int × Int)) → Option Int), i ≤ 1000 → l.length ≤ 100 → ∀ (k m c : Nat) (seen : List Bool), c + k = l.length → k < m → seen.length = 8 → (∀ z ∈ l.take c, 0 ≤ z ∧ z < t.length) → (l.take c).Nodup → (∀ z : Int, 0 ≤ z → z < 8 → (seen[z.toNat]? = some true ↔ z ∈ l.take c)) →
      ev_ref11_Days_l2 n (i : Int) kk m (c : Int) ds rest wage d seen t w g l = if ((l.all fun z => btw 0 ((t.length : Int) - 1) z) && decide l.Nodup) = true then kk ((i + 1 : Nat) : Int) ds rest wage t w g else some 2 := by
    intro i l d kk hi hl k
    induction k with
    | zero =>
      intro m c seen hc hm h8 hr hn hsn
      obtain ⟨m, rfl⟩ : ∃ m', m = m' + 1 := ⟨m - 1, by omega⟩
      rw [List.take_of_length_le (by omega)] at hr hn
      rw [ev_ref11_Days_l2, cond_if, if_neg (by simp; omega), chk_of (in64_of (by omega)), if_pos]
      · rfl
      · rw [Bool.and_eq_true, decide_eq_true_eq, List.all_eq_true]
        exact ⟨fun z hz => btw_iff.2 (by have := hr z hz; omega), hn⟩
    | succ k ih =>
      intro m c seen hc hm h8 hr hn hsn
      obtain ⟨m, rfl⟩ : ∃ m', m = m' + 1 := ⟨m - 1, by omega⟩
      have hlt : c < l.length := by omega
      rw [ev_ref11_Days_l2, cond_if, if_pos (decide_eq_true (by omega)), idx_nat (List.getElem?_eq_getElem hlt), chk_of (in64_of (by omega)), in_ev, Option.bind_some, cond_if]
      by_cases hb : btw 0 ((t.length : Int) - 1) l[c] = true
      · have hb2 := btw_iff.1 hb
        have hsl : l[c].toNat < seen.length := by omega
        rw [if_neg (by simp [hb]), chk_of (by simp; omega), idx_of hb2.1 (List.getElem?_eq_getElem hsl), cond_if]
        by_cases hsv : seen[l[c].toNat] = true
        · have hmem := (hsn l[c] hb2.1 (by omega)).1 (by rw [List.getElem?_eq_getElem hsl, hsv])
          rw [if_pos hsv, if_neg]
          rw [Bool.and_eq_true, decide_eq_true_eq]
          rintro ⟨_, hnd⟩
          obtain ⟨j, hj⟩ := List.getElem?_of_mem hmem
          rw [List.getElem?_take] at hj
          split at hj
          · rename_i hjc
            have hjl : j < l.length := by omega
            rw [List.getElem?_eq_getElem hjl] at hj
            exact (List.pairwise_iff_getElem.1 hnd j c hjl hlt hjc) (Option.some.inj hj)
          · cases hj
        · have hnm : l[c] ∉ l.take c := fun hm2 => by
            have := (hsn l[c] hb2.1 (by omega)).2 hm2
            rw [List.getElem?_eq_getElem hsl] at this
            exact hsv (Option.some.inj this)
          rw [if_neg hsv, chk_of (by simp; omega), idx_of hb2.1 (List.getElem?_eq_getElem hsl), chk_of (in64_of (by omega))]
          refine ih m (c + 1) _ (by omega) (by omega) (by rw [List.length_set]; exact h8) ?_ ?_ ?_
          · rw [List.take_succ_eq_append_getElem hlt]
            intro z hz
            rcases List.mem_append.1 hz with hz | hz
            · exact hr z hz
            · rw [List.mem_singleton] at hz; omega
          · rw [List.take_succ_eq_append_getElem hlt, List.nodup_append]
            refine ⟨hn, by simp, fun a ha b hb e => ?_⟩
            rw [List.mem_singleton] at hb
            exact hnm (by rw [← hb, ← e]; exact ha)
          · intro z h0 h1
            rw [List.getElem?_set, List.take_succ_eq_append_getElem hlt, List.mem_append, List.mem_singleton]
            by_cases e : l[c].toNat = z.toNat
            · rw [if_pos e, if_pos hsl]
              exact ⟨fun _ => .inr (by omega), fun _ => rfl⟩
            · rw [if_neg e, hsn z h0 h1]
              exact ⟨.inl, fun h => h.resolve_right fun e2 => e (by rw [e2])⟩
      · rw [if_pos (by simpa using hb), if_neg]
        rw [Bool.and_eq_true, List.all_eq_true]
        exact fun h => hb (h.1 _ (List.getElem_mem hlt))
  have key : ∀ (k m i : Nat) (p : Int), i + k = ds.length → k < m → 0 ≤ p → (i = 0 → p = 0) → (∀ j, i = j + 1 → ∀ x, ds[j]? = some x → x.1 = p) → ev_ref11_Days_l0 n m (i : Int) ds rest wage t w g = some (if daysB t.length p (ds.drop i) = true then 0 else 2) := by
    intro k
    induction k with
    | zero =>
      intro m i p hi hm h0 hp0 hp
      obtain ⟨m, rfl⟩ : ∃ m', m = m' + 1 := ⟨m - 1, by omega⟩
      rw [ev_ref11_Days_l0, cond_if, if_neg (by simp; omega), List.drop_eq_nil_of_le (by omega), daysB, if_pos rfl]
    | succ k ih =>
      intro m i p hi hm h0 hp0 hp
      obtain ⟨m, rfl⟩ : ∃ m', m = m' + 1 := ⟨m - 1, by omega⟩
      have hlt : i < ds.length := by omega
      have hsh := hs _ (List.getElem_mem hlt)
      rw [ev_ref11_Days_l0, cond_if, if_pos (decide_eq_true (by omega)), idx_nat (List.getElem?_eq_getElem hlt), in_ev, Option.bind_some, cond_if, List.drop_eq_getElem_cons hlt, daysB, dayB]
      by_cases hb : btw 1 36524 ds[i].1 = true
      · have hb2 := btw_iff.1 hb
        have hnext := ih m (i + 1) ds[i].1 (by omega) (by omega) (by omega) (by omega) (fun j hj x hx => by
          have e : j = i := by omega
          rw [e, List.getElem?_eq_getElem hlt] at hx
          exact (congrArg Prod.fst (Option.some.inj hx)).symm)
        have hj1 : p < ds[i].1 → ev_ref11_Days_j1 n (i : Int) ds rest wage ds[i] t w g (fun i7q l8q i9q i10q l11q l12q l13q => ev_ref11_Days_l0 n m i7q l8q i9q i10q l11q l12q l13q) = some (if (btw (p + 1) 36524 ds[i].1 && ((ds[i].2.all fun z => btw 0 ((t.length : Int) - 1) z) && decide ds[i].2.Nodup) && daysB t.length ds[i].1 (ds.drop (i + 1))) = true then 0 else 2) := fun hpd => by
          have h2 := l2 i ds[i].2 ds[i].1 (fun i7q l8q i9q i10q l11q l12q l13q => ev_ref11_Days_l0 n m i7q l8q i9q i10q l11q l12q l13q) (by omega) hsh ds[i].2.length n 0 [false, false, false, false, false, false, false, false] (by omega) (by omega) rfl (by simp) (by simp) (fun z h0 h1 => by
            rw [List.take_zero]
            have : z = 0 ∨ z = 1 ∨ z = 2 ∨ z = 3 ∨ z = 4 ∨ z = 5 ∨ z = 6 ∨ z = 7 := by omega
            rcases this with rfl | rfl | rfl | rfl | rfl | rfl | rfl | rfl <;> simp)
          rw [show ((0 : Nat) : Int) = 0 from rfl] at h2
          rw [ev_ref11_Days_j1, h2, show btw (p + 1) 36524 ds[i].1 = true from btw_iff.2 (by omega), hnext]
          cases ((ds[i].2.all fun z => btw 0 ((t.length : Int) - 1) z) && decide ds[i].2.Nodup)
          · rfl
          · rfl
        rw [if_neg (by simp [hb]), cond_if]
        by_cases hi0 : i = 0
        · subst hi0
          rw [if_neg (by simp)]
          exact hj1 (by have := hp0 rfl; omega)
        · have hlt1 : i - 1 < ds.length := by omega
          have hpv := hp (i - 1) (by omega) _ (List.getElem?_eq_getElem hlt1)
          rw [if_pos (decide_eq_true (by omega)), chk_of (in64_of (by omega)), idx_of (x := ds[i - 1]) (by omega) (by rw [show ((i : Int) - 1).toNat = i - 1 by omega]; exact List.getElem?_eq_getElem hlt1), cond_if, hpv]
          by_cases hc : ds[i].1 ≤ p
          · rw [if_pos (decide_eq_true hc), if_neg]
            rw [Bool.and_eq_true, Bool.and_eq_true, btw_iff]
            omega
          · rw [if_neg (by simpa using hc)]
            exact hj1 (by omega)
      · rw [if_pos (by simpa using hb), if_neg]
        rw [Bool.and_eq_true, Bool.and_eq_true, btw_iff]
        intro h
        exact hb (btw_iff.2 (by omega))
  rw [ev_ref11_Days, cond_if, daysP]
  by_cases h : 400 < ds.length
  · rw [if_pos (decide_eq_true (by omega)), if_pos h]
  · rw [if_neg (by simp; omega), if_neg h]
    have := key ds.length n 0 0 (by omega) (by omega) (by decide) (fun _ => rfl) (fun j hj => by omega)
    rw [List.drop_zero] at this
    exact this
def lastP (q : Int) (j : Int) : List Dy → Int → Int
  | [], c => c
  | d :: l, c => if d.1 ≤ q then lastP q j l (if j ∈ d.2 then d.1 else c) else c
theorem last_ev {n : Nat} {k : Nat} {ds : List Dy} (hd : OkDs k ds) (hn : 500 < n) {j q : Int} : ev_ref11_Last n ds j q = some (lastP q j ds 0) := by
  have hl := hd.len
  have inner : ∀ (i : Nat) (hi : i < ds.length) (kk : Int → Int → Option Int) (k m c : Nat) (v : Int), c + k = ds[i].2.length → k < m →
      ev_ref11_Last_l2 n ds (i : Int) j kk m v (c : Int) = kk (if j ∈ ds[i].2.drop c then ds[i].1 else v) ((i + 1 : Nat) : Int) := by
    intro i hi kk k
    have hs := hd.short _ (List.getElem_mem hi)
    induction k with
    | zero =>
      intro m c v hc hm
      obtain ⟨m, rfl⟩ : ∃ m', m = m' + 1 := ⟨m - 1, by omega⟩
      rw [ev_ref11_Last_l2, idx_nat (List.getElem?_eq_getElem hi), cond_if, if_neg (by simp; omega), chk_of (in64_of (by omega)), List.drop_eq_nil_of_le (by omega), if_neg (by simp)]
      rfl
    | succ k ih =>
      intro m c v hc hm
      obtain ⟨m, rfl⟩ : ∃ m', m = m' + 1 := ⟨m - 1, by omega⟩
      have hlt : c < ds[i].2.length := by omega
      rw [ev_ref11_Last_l2, idx_nat (List.getElem?_eq_getElem hi), cond_if, if_pos (decide_eq_true (by omega)), idx_nat (List.getElem?_eq_getElem hlt), cond_if, List.drop_eq_getElem_cons hlt, chk_of (in64_of (by omega))]
      by_cases e : ds[i].2[c] = j
      · rw [if_pos (by simpa using e), if_pos (List.mem_cons.2 (.inl e.symm))]
        have := ih m (c + 1) ds[i].1 (by omega) (by omega)
        rw [ite_self] at this
        exact this
      · rw [if_neg (by simpa using e), chk_of (in64_of (by omega))]
        have := ih m (c + 1) v (by omega) (by omega)
        rw [show ((c : Int) + 1) = ((c + 1 : Nat) : Int) from rfl, this]
        by_cases e2 : j ∈ ds[i].2.drop (c + 1)
        · rw [if_pos e2, if_pos (List.mem_cons.2 (.inr e2))]
        · rw [if_neg e2, if_neg (fun h => (List.mem_cons.1 h).elim (fun h => e h.symm) e2)]
  have key : ∀ (k m i : Nat) (v : Int), i + k = ds.length → k < m → ev_ref11_Last_l0 n ds q j m v (i : Int) = some (lastP q j (ds.drop i) v) := by
    intro k
    induction k with
    | zero =>
      intro m i v hi hm
      obtain ⟨m, rfl⟩ : ∃ m', m = m' + 1 := ⟨m - 1, by omega⟩
      rw [ev_ref11_Last_l0, cond_if, if_neg (by simp; omega), List.drop_eq_nil_of_le (by omega), lastP]
    | succ k ih =>
      intro m i v hi hm
      obtain ⟨m, rfl⟩ : ∃ m', m = m' + 1 := ⟨m - 1, by omega⟩
      have hlt : i < ds.length := by omega
      have hs := hd.short _ (List.getElem_mem hlt)
      rw [ev_ref11_Last_l0, cond_if, if_pos (decide_eq_true (by omega)), idx_nat (List.getElem?_eq_getElem hlt), cond_if, List.drop_eq_getElem_cons hlt, lastP]
      by_cases hc : ds[i].1 ≤ q
      · have hin := inner i hlt (fun i4q i5q => ev_ref11_Last_l0 n ds q j m i4q i5q) ds[i].2.length n 0 v (by omega) (by omega)
        rw [List.drop_zero, show ((0 : Nat) : Int) = 0 from rfl] at hin
        rw [if_pos (decide_eq_true hc), if_pos hc, ev_ref11_Last_j1, hin]
        exact ih m (i + 1) _ (by omega) (by omega)
      · rw [if_neg (by simpa using hc), if_neg hc]
  exact key ds.length n 0 0 (by omega) (by omega)
theorem last_left {t : List Tw} {q : Int} {j : Nat} (hj : j < t.length) : ∀ (ds : List Dy) (c : List Int) (v : Int), ds.Pairwise (fun a b => a.1 < b.1) → (∀ d ∈ ds, ∀ x ∈ d.2, 0 ≤ x ∧ x < t.length) → c.length = t.length → c.getD j 0 = v + (goesP t).getD j 0 → (leftP t q ds c).getD j 0 = lastP q (j : Int) ds v + (goesP t).getD j 0
  | [], c, v, _, _, _, h => h
  | d :: l, c, v, hasc, hx, hc, h => by
    rw [List.pairwise_cons] at hasc
    rw [leftP, lastP]
    split
    · refine last_left hj l _ _ hasc.2 (fun d' hd' => hx d' (by simp [hd'])) (by rw [windP_len, hc]) ?_
      rw [wind_at _ _ (hx d (by simp)) hc j hj]
      split
      · rfl
      · exact h
    · rename_i hq
      rw [left_none _ _ fun x hx => by have := hasc.1 x hx; omega]
      exact h
theorem last_range {q j : Int} : ∀ (ds : List Dy) (v : Int), 0 ≤ v → v ≤ 36524 → (∀ d ∈ ds, 1 ≤ d.1 ∧ d.1 ≤ 36524) → 0 ≤ lastP q j ds v ∧ lastP q j ds v ≤ 36524
  | [], v, h0, h1, _ => ⟨h0, h1⟩
  | d :: l, v, h0, h1, h => by
    rw [lastP]
    have := h d (by simp)
    split
    · exact last_range l _ (by split <;> omega) (by split <;> omega) fun x hx => h x (by simp [hx])
    · exact ⟨h0, h1⟩
end Go.Proofs.Ytohjpfkcahlfkaa.Sy
