/- How often a strike has missed, in plain terms. -/
import Derived.Test.YtglgkcfgjaoabaaSbEvStrike
import Derived.Test.YtglgkcfgjaoabaaSbSpLib
import Derived.Test.YtglgkcfgjaoabaaSbEvSort
set_option linter.unusedSimpArgs false
set_option linter.unusedVariables false
namespace Go.Proofs.Ytglgkcfgjaoabaa.Sy
open Go.RowKit
set_option maxRecDepth 100000
theorem perm_le_eqM : ∀ {l r : List Int}, l.Perm r → l.Pairwise (· ≤ ·) → r.Pairwise (· ≤ ·) → l = r := by
  intro l
  induction l with
  | nil => intro r p _ _; exact (List.nil_perm.1 p).symm
  | cons a l ih =>
    intro r p hl hr
    cases r with
    | nil => exact absurd p (by simp)
    | cons b r =>
      have ha : a ∈ b :: r := p.mem_iff.1 (by simp);have hb : b ∈ a :: l := p.mem_iff.2 (by simp);rw [List.pairwise_cons] at hl hr;have e : a = b := by
        rcases List.mem_cons.1 ha with h | h
        · exact h
        · rcases List.mem_cons.1 hb with h' | h'
          · exact h'.symm
          · have := hr.1 a h; have := hl.1 b h'; omega
      subst e;rw [ih p.cons_inv hl.2 hr.2]
theorem isort_isM {l r : List Int} (p : r.Perm l) (h : r.Pairwise (· ≤ ·)) : isort lessI l = r := by
  refine perm_le_eqM ((isort_perm lessI l).trans p.symm) ?_ h;refine (isort_sorted lessI (fun x y h => ?_) (fun x y z h1 h2 => ?_) l).imp fun {x y} h => ?_
  · simp only [lessI] at *; split at h <;> split <;> omega
  · simp only [lessI] at *; split at h1 <;> split at h2 <;> split <;> omega
  · simp only [lessI] at h; split at h <;> omega
def canL (N : Nat) (f : Nat → Option Int) : List (Int × Int) := (List.range N).filterMap fun p => (f p).map fun v => ((p : Int), v)
theorem mem_canL {N : Nat} {f : Nat → Option Int} {x : Int × Int} : x ∈ canL N f ↔ ∃ p : Nat, p < N ∧ f p = some x.2 ∧ x.1 = (p : Int) := by
  unfold canL;rw [List.mem_filterMap]
  constructor
  · rintro ⟨p, hp, h⟩
    obtain ⟨v, hv, rfl⟩ := Option.map_eq_some_iff.1 h;exact ⟨p, List.mem_range.1 hp, hv, rfl⟩
  · rintro ⟨p, hp, hv, h⟩
    refine ⟨p, List.mem_range.2 hp, ?_⟩;rw [hv];show some ((p : Int), x.2) = some x;rw [← h]
def SortedK (l : List (Int × Int)) : Prop := l.Pairwise fun a b => a.1 < b.1
theorem canL_sorted (N : Nat) (f : Nat → Option Int) : SortedK (canL N f) := by
  unfold SortedK canL;rw [List.pairwise_filterMap];refine List.pairwise_lt_range.imp fun {a b} h => ?_
  intro x hx y hy;obtain ⟨v, _, rfl⟩ := Option.map_eq_some_iff.1 hx;obtain ⟨w, _, rfl⟩ := Option.map_eq_some_iff.1 hy;simp only; omega
theorem sorted_uniq : ∀ {l r : List (Int × Int)}, SortedK l → SortedK r → (∀ x, x ∈ l ↔ x ∈ r) → l = r := by
  intro l
  induction l with
  | nil =>
    intro r _ _ h
    cases r with
    | nil => rfl
    | cons b r => have := (h b).2 (by simp); simp at this
  | cons a l ih =>
    intro r hl hr h
    cases r with
    | nil => have := (h a).1 (by simp); simp at this
    | cons b r =>
      have ha := (h a).1 (by simp);have hb := (h b).2 (by simp);rw [SortedK, List.pairwise_cons] at hl hr;have e : a = b := by
        rcases List.mem_cons.1 ha with h1 | h1
        · exact h1
        · rcases List.mem_cons.1 hb with h2 | h2
          · exact h2.symm
          · have := hr.1 a h1; have := hl.1 b h2; omega
      subst e;rw [ih hl.2 hr.2 fun x => ?_]
      constructor
      · intro hx;rcases List.mem_cons.1 ((h x).1 (by simp [hx])) with h1 | h1
        · subst h1; have := hl.1 x hx; omega
        · exact h1
      · intro hx;rcases List.mem_cons.1 ((h x).2 (by simp [hx])) with h1 | h1
        · subst h1; have := hr.1 x hx; omega
        · exact h1
theorem sorted_nodup {l : List (Int × Int)} (h : SortedK l) : (l.map (·.1)).Nodup := by
  rw [List.nodup_iff_pairwise_ne, List.pairwise_map];exact h.imp fun {a b} h => by omega
theorem mlook_can {N : Nat} {f : Nat → Option Int} {p : Nat} (hp : p < N) : mlook (canL N f) (p : Int) = f p := by
  apply Option.ext;intro v;rw [mlook_iff (sorted_nodup (canL_sorted N f)), mem_canL]
  constructor
  · rintro ⟨q, hq, h1, h2⟩
    simp only at h1 h2;have : p = q := by omega
    subst this; exact h1
  · intro h;exact ⟨p, hp, h, rfl⟩
theorem mins_sorted {x : Int × Int} : ∀ {l : List (Int × Int)}, SortedK l → (∀ y ∈ l, y.1 ≠ x.1) → SortedK (mins (fun a b => decide (a < b)) x l) := by
  intro l
  induction l with
  | nil => intro _ _; exact List.pairwise_singleton _ _
  | cons y l ih =>
    intro hl hne;have hl' := hl;rw [SortedK, List.pairwise_cons] at hl';simp only [mins]
    split
    · rename_i hlt
      have hlt := of_decide_eq_true hlt;refine List.pairwise_cons.2 ⟨fun z hz => ?_, hl⟩;rcases List.mem_cons.1 hz with rfl | hz
      · exact hlt
      · have := hl'.1 z hz; omega
    · rename_i hlt
      have hge : y.1 < x.1 := by
        have := hne y (by simp);simp only [decide_eq_true_eq] at hlt
        omega
      refine List.pairwise_cons.2 ⟨fun z hz => ?_, ih hl'.2 fun z hz => hne z (by simp [hz])⟩;have := (mins_perm _ x l).mem_iff.1 hz;rcases List.mem_cons.1 this with rfl | hz
      · exact hge
      · exact hl'.1 z hz
theorem mputS_can {N : Nat} {f : Nat → Option Int} {p : Nat} (hp : p < N) (v : Int) : mputS kl90 (canL N f) (p : Int) v = canL N (fun k => if k = p then some v else f k) := by
  have hs := canL_sorted N f;have hf : SortedK ((canL N f).filter fun x => !(x.1 == (p : Int))) := hs.sublist List.filter_sublist;refine sorted_uniq (mins_sorted hf fun y hy => ?_) (canL_sorted _ _) fun x => ?_
  · have := (List.mem_filter.1 hy).2
    simpa using this
  · rw [mem_canL];have h1 := (mins_perm (fun a b => decide (a < b)) ((p : Int), v) ((canL N f).filter fun x => !(x.1 == (p : Int)))).mem_iff (a := x);show x ∈ mins (fun a b => decide (a < b)) ((p : Int), v) _ ↔ _;rw [h1, List.mem_cons, List.mem_filter, mem_canL]
    constructor
    · rintro (rfl | ⟨⟨q, hq, h2, h3⟩, h4⟩)
      · exact ⟨p, hp, by simp, rfl⟩
      · have : q ≠ p := fun e => by subst e; rw [h3] at h4; simp at h4
        exact ⟨q, hq, by rw [if_neg this]; exact h2, h3⟩
    · rintro ⟨q, hq, h2, h3⟩
      by_cases e : q = p
      · subst e;rw [if_pos rfl] at h2
        left
        obtain ⟨a, b⟩ := x;simp only [Option.some.injEq] at h2 h3;rw [h2, h3]
      · rw [if_neg e] at h2;exact .inr ⟨⟨q, hq, h2, h3⟩, by simp; omega⟩
def minO (o : Option Int) (v : Int) : Option Int := some (match o with | none => v | some u => min u v)
theorem minO_comm (o : Option Int) (a b : Int) : minO (minO o a) b = minO (minO o b) a := by
  cases o with
  | none => simp only [minO, Option.some.injEq]; omega
  | some u => simp only [minO, Option.some.injEq]; omega
def addF (f : Nat → Option Int) (p : Nat) (v : Int) : Nat → Option Int := fun k => if k = p then minO (f k) v else f k
theorem addF_comm (f : Nat → Option Int) (p q : Nat) (u v : Int) : addF (addF f p u) q v = addF (addF f q v) p u := by
  funext k
  unfold addF
  by_cases h1 : k = p
  · by_cases h2 : k = q
    · subst h1; subst h2; simp only [if_true]; exact minO_comm _ _ _
    · subst h1; simp only [if_true, h2, if_false]
  · simp only [h1, if_false]
theorem ev_add {n N : Nat} {f : Nat → Option Int} {p : Nat} (hp : p < N) (v : Int) : ev_strike_misses_add n (canL N f) (p : Int) v = some (canL N (addF f p v)) := by
  rw [ev_strike_misses_add, mlook_can hp, mputS_can hp, cond_if]
  cases hf : f p with
  | none =>
    simp only [Option.isSome_none, Bool.not_false, if_true]
    congr 2
    funext k
    unfold addF
    split
    · rename_i e; subst e; rw [hf]; rfl
    · rfl
  | some u =>
    simp only [Option.isSome_some, Bool.not_true, Bool.false_eq_true, if_false, Option.getD_some, cond_if]
    by_cases hlt : v < u
    · rw [if_pos (by simpa using hlt)]
      congr 2
      funext k
      unfold addF
      split
      · rename_i e; subst e; rw [hf]; simp only [minO, Option.some.injEq]; omega
      · rfl
    · rw [if_neg (by simpa using hlt)]
      congr 2
      funext k
      unfold addF
      split
      · rename_i e; subst e; rw [hf]; simp only [minO, Option.some.injEq]; omega
      · rfl
section
variable (h rack : Bool) (q : List (Int × Int)) (slot : Int) (hp : Int → Bool)
def contr (x : Int × Int) : List (Nat × Int) :=
  (if hp (blP h q slot x.1) then [(((x.1 + 1) % plN h).toNat, x.2)] else []) ++ if hp 0 then [((if rack then (x.1 + 1) % plN h else x.1).toNat, x.2 + 1)] else []
def addC (f : Nat → Option Int) (c : Nat × Int) : Nat → Option Int := addF f c.1 c.2
def afterF (f : Nat → Option Int) : Nat → Option Int := ((canL (nN h) f).flatMap (contr h rack q slot hp)).foldl addC fun _ => none
end
theorem addC_perm {l r : List (Nat × Int)} (p : l.Perm r) (f : Nat → Option Int) : l.foldl addC f = r.foldl addC f :=
  p.foldl_eq' (fun x _ y _ z => addF_comm _ _ _ _ _) f
theorem ev_after {n : Nat} (hn : 60 < n) {h rack : Bool} {q : List (Int × Int)} (hq : q.length ≤ 8) {slot : Int} (hs : 0 ≤ slot) {hv : Int → Option Bool} {hp : Int → Bool} (hvp : ∀ b, hv b = some (hp b)) {f : Nat → Option Int} (hf : ∀ p v, f p = some v → 0 ≤ v ∧ v ≤ 1000000) :
    ev_strike_train_after n h rack q (plN h) (canL (nN h) f) slot hv = some (canL (nN h) (afterF h rack q slot hp f)) := by
  have hN : 12 ≤ plN h ∧ plN h ≤ 24 := by rcases plN_or h with e | e <;> omega
  have hNc := nN_cast h;have key : ∀ (k m : Nat) (L : List (Int × Int)) (g : Nat → Option Int), L.length = k → k < m → (∀ x ∈ L, (0 ≤ x.1 ∧ x.1 < plN h) ∧ 0 ≤ x.2 ∧ x.2 ≤ 1000000) →
      ev_strike_train_after_l0 n slot hv m h rack (plN h) (canL (nN h) g) L q = some (canL (nN h) ((L.flatMap (contr h rack q slot hp)).foldl addC g)) := by
    intro k
    induction k with
    | zero =>
      intro m L g hL hm _
      cases m with
      | zero => omega
      | succ m =>
        have : L = [] := List.length_eq_zero_iff.1 hL;subst this;rw [ev_strike_train_after_l0]; rfl
    | succ k ih =>
      intro m L g hL hm hx
      cases m with
      | zero => omega
      | succ m =>
        rw [ev_strike_train_after_l0];refine nextAll_of (fun h0 => by rw [h0] at hL; simp at hL) fun j hj => ?_
        obtain ⟨hx1, hx2⟩ := hx _ (List.getElem_mem hj);have hrest : ∀ x ∈ L.eraseIdx j, (0 ≤ x.1 ∧ x.1 < plN h) ∧ 0 ≤ x.2 ∧ x.2 ≤ 1000000 := fun x hx' => hx x ((List.eraseIdx_sublist L j).subset hx')
        have hlen : (L.eraseIdx j).length = k := by rw [List.length_eraseIdx, if_pos hj]; omega
        have hnx : (((L[j].1 + 1) % plN h).toNat : Int) = (L[j].1 + 1) % plN h := by
          have := Int.emod_nonneg (L[j].1 + 1) (show plN h ≠ 0 by omega); omega
        have hnx2 : ((L[j].1 + 1) % plN h).toNat < nN h := by
          have := Int.emod_lt_of_pos (L[j].1 + 1) (show 0 < plN h by omega); omega
        have hms : ((if rack then (L[j].1 + 1) % plN h else L[j].1).toNat : Int) = (if rack then (L[j].1 + 1) % plN h else L[j].1) := by
          have := Int.emod_nonneg (L[j].1 + 1) (show plN h ≠ 0 by omega); split <;> omega
        have hms2 : (if rack then (L[j].1 + 1) % plN h else L[j].1).toNat < nN h := by
          have := Int.emod_lt_of_pos (L[j].1 + 1) (show 0 < plN h by omega); split <;> omega
        have hgoal : (L.flatMap (contr h rack q slot hp)).foldl addC g = ((L.eraseIdx j).flatMap (contr h rack q slot hp)).foldl addC ((contr h rack q slot hp L[j]).foldl addC g) := by
          rw [← List.foldl_append];exact addC_perm (((erase_perm hj).flatMap_right _).symm) g
        rw [hgoal];have j1 : ∀ g' : Nat → Option Int, ev_strike_train_after_j1 n hv L[j] (fun b8q b9q i10q l11q l12q l13q => ev_strike_train_after_l0 n slot hv m b8q b9q i10q l11q l12q l13q) h rack (plN h) (canL (nN h) g') (L.eraseIdx j) q =
            some (canL (nN h) (((L.eraseIdx j).flatMap (contr h rack q slot hp)).foldl addC ((if hp 0 then [((if rack then (L[j].1 + 1) % plN h else L[j].1).toNat, L[j].2 + 1)] else []).foldl addC g'))) := by
          intro g';rw [ev_strike_train_after_j1, bind_of (hvp 0), cond_if]
          split
          · have ha := ev_add (n := n) (f := g') hms2 (L[j].2 + 1);rw [hms] at ha;rw [bind_of (ev_missed (by omega) (by omega)), chk_of (in64_of (by omega)), bind_of ha];exact ih m _ _ hlen (by omega) hrest
          · exact ih m _ _ hlen (by omega) hrest
        rw [bind_of (ev_blows (by omega) hq hs (by omega)), bind_of (hvp _), cond_if];unfold contr;rw [List.foldl_append]
        split
        · have ha := ev_add (n := n) (f := g) hnx2 L[j].2;rw [hnx] at ha;rw [bind_of (ev_next (by omega) (by omega)), bind_of ha];exact j1 (addF g ((L[j].1 + 1) % plN h).toNat L[j].2)
        · exact j1 g
  rw [ev_strike_train_after];have hx : ∀ x ∈ canL (nN h) f, (0 ≤ x.1 ∧ x.1 < plN h) ∧ 0 ≤ x.2 ∧ x.2 ≤ 1000000 := fun x hx => by
    obtain ⟨p, hp', h1, h2⟩ := mem_canL.1 hx;have := hf p _ h1
    omega
  have hlen : (canL (nN h) f).length ≤ 24 := by
    have := List.length_filterMap_le (fun p => (f p).map fun v => ((p : Int), v)) (List.range (nN h));rw [List.length_range] at this;have h2 : nN h ≤ 24 := by cases h <;> simp [nN]
    unfold canL; omega
  have hnil : ([] : List (Int × Int)) = canL (nN h) fun _ => none := by
    unfold canL; symm; rw [List.filterMap_eq_nil_iff]; intro a _; rfl
  have := key (canL (nN h) f).length n (canL (nN h) f) (fun _ => none) rfl (by omega) hx;rw [← hnil] at this;exact this
theorem foldC_spec : ∀ (l : List (Nat × Int)) (g : Nat → Option Int) (p : Nat), (∀ v, l.foldl addC g p = some v → g p = some v ∨ (p, v) ∈ l) ∧ (∀ v, (g p = some v ∨ (p, v) ∈ l) → ∃ u, l.foldl addC g p = some u ∧ u ≤ v) := by
  intro l
  induction l with
  | nil => intro g p; exact ⟨fun v h => .inl h, fun v h => ⟨v, by simpa using h, Int.le_refl _⟩⟩
  | cons c l ih =>
    intro g p;obtain ⟨h1, h2⟩ := ih (addC g c) p;refine ⟨fun v hv => ?_, fun v hv => ?_⟩
    · rcases h1 v hv with h | h
      · unfold addC addF at h
        split at h
        · rename_i e
          unfold minO at h
          cases hg : g p with
          | none => rw [hg] at h; simp only [Option.some.injEq] at h; right; rw [e, ← h]; simp
          | some u =>
            rw [hg] at h;simp only [Option.some.injEq] at h;rcases Int.le_total u c.2 with h3 | h3
            · left; rw [← h]; congr 1; omega
            · right; have : c.2 = v := by omega
              rw [e, ← this]; simp
        · exact .inl h
      · exact .inr (by simp [h])
    · rcases hv with hv | hv
      · have : ∃ u, addC g c p = some u ∧ u ≤ v := by
          unfold addC addF minO
          split
          · rw [hv]; exact ⟨_, rfl, by simp only; omega⟩
          · exact ⟨v, hv, Int.le_refl _⟩
        obtain ⟨u, hu, hle⟩ := this;obtain ⟨w, hw, hle2⟩ := h2 u (.inl hu);exact ⟨w, hw, by omega⟩
      · rcases List.mem_cons.1 hv with e | hv
        · have : ∃ u, addC g c p = some u ∧ u ≤ v := by
            unfold addC addF minO;rw [← e];simp only [if_true]
            cases g p with
            | none => exact ⟨_, rfl, Int.le_refl _⟩
            | some u => exact ⟨_, rfl, by simp only; omega⟩
          obtain ⟨u, hu, hle⟩ := this;obtain ⟨w, hw, hle2⟩ := h2 u (.inl hu);exact ⟨w, hw, by omega⟩
        · exact h2 v (.inr hv)
def gapF (h rack : Bool) (q : List (Int × Int)) : Nat → Int → (Nat → Option Int) → Nat → Option Int
  | 0, _, f => f
  | k + 1, slot, f => gapF h rack q k (slot + 1) (afterF h rack q slot (fun _ => true) f)
def missF (h rack : Bool) (q : List (Int × Int)) : List (Int × Int) → Int → (Nat → Option Int) → Nat → Option Int
  | [], _, f => f
  | x :: l, slot, f => missF h rack q l (x.1 + 1) (afterF h rack q x.1 (fun b => b == x.2) (gapF h rack q (x.1 - slot).toNat slot f))
def firstF (h rack : Bool) (slot : Int) : Nat → Option Int := fun p => if rack && decide ((p : Int) ≠ slot % plN h) then none else some 0
def Bnd (f : Nat → Option Int) (B : Int) : Prop := ∀ p v, f p = some v → 0 ≤ v ∧ v ≤ B
theorem after_bnd {h rack : Bool} {q : List (Int × Int)} {slot : Int} {hp : Int → Bool} {f : Nat → Option Int} {B : Int} (hf : Bnd f B) : Bnd (afterF h rack q slot hp f) (B + 1) := by
  intro p v hv;rcases (foldC_spec _ _ p).1 v hv with h1 | h1
  · cases h1
  · obtain ⟨x, hx, hc⟩ := List.mem_flatMap.1 h1;obtain ⟨p', _, h2, h3⟩ := mem_canL.1 hx;have := hf p' _ h2;unfold contr at hc;rcases List.mem_append.1 hc with hc | hc
    · split at hc
      · simp only [List.mem_singleton, Prod.mk.injEq] at hc; omega
      · simp at hc
    · split at hc
      · simp only [List.mem_singleton, Prod.mk.injEq] at hc; omega
      · simp at hc
theorem gap_bnd {h rack : Bool} {q : List (Int × Int)} : ∀ (k : Nat) (slot : Int) (f : Nat → Option Int) (B : Int), Bnd f B → Bnd (gapF h rack q k slot f) (B + k) := by
  intro k
  induction k with
  | zero => intro slot f B hf; simpa [gapF] using hf
  | succ k ih =>
    intro slot f B hf;have := ih (slot + 1) _ _ (after_bnd (h := h) (rack := rack) (q := q) (slot := slot) (hp := fun _ => true) hf);rw [show B + ((k + 1 : Nat) : Int) = B + 1 + (k : Int) by omega];exact this
structure OkHd (l : List (Int × Int)) : Prop where
  len : 1 ≤ l.length ∧ l.length ≤ 200
  ok : ∀ x ∈ l, (0 ≤ x.1 ∧ x.1 ≤ 2000000) ∧ (0 ≤ x.2 ∧ x.2 ≤ 12)
  asc : l.Pairwise fun a b => a.1 < b.1
  span : ∀ a b, l[0]? = some a → l[l.length - 1]? = some b → b.1 - a.1 < 2000
theorem ev_checkHeard {n : Nat} (hn : 300 < n) {l : List (Int × Int)} (h : OkHd l) : ev_strike_checkHeard n l = some 0 := by
  have hlen := h.len;have key : ∀ (k m i : Nat), i + k = l.length → k < m → ev_strike_checkHeard_l0 n l m (i : Int) l = some 0 := by
    intro k
    induction k with
    | zero =>
      intro m i hi hm
      cases m with
      | zero => omega
      | succ m =>
        have h0 : l[0]? = some l[0] := List.getElem?_eq_getElem (by omega);have h1 : l[l.length - 1]? = some l[l.length - 1] := List.getElem?_eq_getElem (by omega);have hs := h.span _ _ h0 h1;have o0 := (h.ok _ (List.getElem_mem (show 0 < l.length by omega))).1;have o1 := (h.ok _ (List.getElem_mem (show l.length - 1 < l.length by omega))).1;have et : ((l.length : Int) - 1).toNat = l.length - 1 := by omega
        rw [ev_strike_checkHeard_l0, cond_if, if_neg (by simp; omega), chk_of (in64_of (by omega)), idx_of (x := l[l.length - 1]) (by omega) (by rw [et]; exact h1), idx_of (x := l[0]) (by decide) (by exact h0), chk_of (in64_of (by omega)), cond_if, if_neg (by simp; omega)]
    | succ k ih =>
      intro m i hi hm
      cases m with
      | zero => omega
      | succ m =>
        have hlt : i < l.length := by omega
        obtain ⟨o1, o2⟩ := h.ok _ (List.getElem_mem hlt);have hsl : ev_strike_isSlot n l[i].1 = some true := by rw [ev_strike_isSlot, bind_of (wi1_strike (by omega))]; congr 1; simp; omega
        rw [ev_strike_checkHeard_l0, cond_if, if_pos (by simp; omega), idx_nat (List.getElem?_eq_getElem hlt), bind_of hsl, cond_if, if_neg (by simp), bind_of (wi1_strike (by omega)), cond_if, if_neg (by simp; omega), cond_if];have e : ((i : Int) + 1) = ((i + 1 : Nat) : Int) := by omega
        by_cases hi0 : 0 < i
        · have hlt2 : i - 1 < l.length := by omega
          have et : ((i : Int) - 1) = ((i - 1 : Nat) : Int) := by omega
          have hasc := List.pairwise_iff_getElem.1 h.asc (i - 1) i hlt2 hlt (by omega);rw [if_pos (by simp; omega), chk_of (in64_of (by omega)), et, idx_nat (List.getElem?_eq_getElem hlt2), cond_if, if_neg (by simp; omega), chk_of (in64_of (by omega)), e];exact ih m (i + 1) (by omega) (by omega)
        · rw [if_neg (by simp; omega), chk_of (in64_of (by omega)), e];exact ih m (i + 1) (by omega) (by omega)
  rw [ev_strike_checkHeard, cond_if, if_neg (by rw [beq_iff_eq]; omega), cond_if, if_neg (by simp; omega)];exact key l.length n 0 (by omega) (by omega)
theorem ev_l4 {n : Nat} {E : List (Int × Int)} (hE : SortedK E) {mn : Int} (hmn : (∃ x ∈ E, x.2 = mn) ∧ ∀ x ∈ E, mn ≤ x.2) (hlen : E.length ≤ 1000) (hsort : ∀ l : List Int, l.Perm ((E.filter fun x => x.2 == mn).map (·.1)) → ev_slices_Sort_Lint_int n l = some (isort lessI l)) :
    ∀ (k m : Nat) (L S : List (Int × Int)) (fw : Int) (at_ : List Int) (first : Bool), L.length = k → k < m → (S ++ L).Perm E → (first = true ∧ S = [] ∧ at_ = [] ∨ first = false ∧ (∃ x ∈ S, x.2 = fw) ∧ (∀ x ∈ S, fw ≤ x.2) ∧ at_.Perm ((S.filter fun x => x.2 == fw).map (·.1))) →
      ev_strike_Misses_l4 n m fw at_ first L = some (mn, (E.filter fun x => x.2 == mn).map (·.1), 0) := by
  intro k
  induction k with
  | zero =>
    intro m L S fw at_ first hL hm hp hst
    cases m with
    | zero => omega
    | succ m =>
      have : L = [] := List.length_eq_zero_iff.1 hL;subst this;rw [List.append_nil] at hp;rw [ev_strike_Misses_l4];refine nextAll_of (fun _ => ?_) fun j hj => by simp at hj
      rcases hst with ⟨_, hS, _⟩ | ⟨_, h1, h2, h3⟩
      · subst hS;obtain ⟨x, hx, _⟩ := hmn.1;have := hp.mem_iff.2 hx;simp at this
      · have hfw : fw = mn := by
          obtain ⟨x, hx, e⟩ := h1;obtain ⟨y, hy, e2⟩ := hmn.1;have := hmn.2 x (hp.mem_iff.1 hx);have := h2 y (hp.mem_iff.2 hy)
          omega
        subst hfw;have hpa : at_.Perm ((E.filter fun x => x.2 == fw).map (·.1)) := h3.trans ((hp.filter _).map _);have hal : at_.length ≤ E.length := by
          rw [hpa.length_eq, List.length_map]; exact List.length_filter_le _ _
        have hs : isort lessI at_ = (E.filter fun x => x.2 == fw).map (·.1) := by
          refine isort_isM hpa.symm ?_;rw [List.pairwise_map];exact (hE.sublist List.filter_sublist).imp fun {a b} h => by omega
        rw [bind_of (hsort at_ hpa), hs]
  | succ k ih =>
    intro m L S fw at_ first hL hm hp hst
    cases m with
    | zero => omega
    | succ m =>
      rw [ev_strike_Misses_l4];refine nextAll_of (fun h0 => by rw [h0] at hL; simp at hL) fun j hj => ?_
      have hlk : (L.eraseIdx j).length = k := by rw [List.length_eraseIdx, if_pos hj]; omega
      obtain ⟨x, hx⟩ : ∃ x, x = L[j] := ⟨_, rfl⟩;rw [← hx];have hp' : ((x :: S) ++ L.eraseIdx j).Perm E := by
        refine List.Perm.trans ?_ hp;have h1 := (erase_perm hj).append_left S;rw [← hx] at h1;exact (List.perm_middle.symm).trans h1
      have go := fun (fw' : Int) (at' : List Int) (hh : (∃ y ∈ x :: S, y.2 = fw') ∧ (∀ y ∈ x :: S, fw' ≤ y.2) ∧ at'.Perm (((x :: S).filter fun y => y.2 == fw').map (·.1))) => ih m (L.eraseIdx j) (x :: S) fw' at' false hlk (by omega) hp' (.inr ⟨rfl, hh⟩)
      rw [cond_if];rcases hst with ⟨rfl, rfl, rfl⟩ | ⟨rfl, h1, h2, h3⟩
      · rw [if_pos rfl];exact go x.2 [x.1] ⟨⟨x, by simp, rfl⟩, fun y hy => by rw [List.mem_singleton] at hy; subst hy; exact Int.le_refl _, by simp⟩
      · rw [if_neg (by simp), cond_if]
        by_cases hlt : x.2 < fw
        · rw [if_pos (by simpa using hlt)];refine go x.2 [x.1] ⟨⟨x, by simp, rfl⟩, fun y hy => ?_, ?_⟩
          · rcases List.mem_cons.1 hy with rfl | hy
            · exact Int.le_refl _
            · have := h2 y hy; omega
          · have : S.filter (fun y => y.2 == x.2) = [] := by
              rw [List.filter_eq_nil_iff]; intro y hy; have := h2 y hy; simp; omega
            rw [List.filter_cons, if_pos (by simp), this]; simp
        · rw [if_neg (by simpa using hlt), cond_if]
          by_cases heq : x.2 = fw
          · rw [if_pos (by simpa using heq)];have hatl : at_.length ≤ 1000 := by
              rw [h3.length_eq, List.length_map];have h4 := List.length_filter_le (fun x : Int × Int => x.2 == fw) S;have h5 := hp.length_eq;rw [List.length_append] at h5
              omega
            rw [chk_of (room_iff.2 (by simp; omega))];obtain ⟨y, hy, hye⟩ := h1;refine go fw (at_ ++ [x.1]) ⟨⟨y, by simp [hy], hye⟩, fun z hz => ?_, ?_⟩
            · rcases List.mem_cons.1 hz with rfl | hz
              · omega
              · exact h2 z hz
            · rw [List.filter_cons, if_pos (by simpa using heq), List.map_cons];exact (List.perm_append_comm.trans (List.Perm.cons _ h3))
          · rw [if_neg (by simpa using heq)];obtain ⟨y, hy, hye⟩ := h1;refine go fw at_ ⟨⟨y, by simp [hy], hye⟩, fun z hz => ?_, ?_⟩
            · rcases List.mem_cons.1 hz with rfl | hz
              · omega
              · exact h2 z hz
            · rw [List.filter_cons, if_neg (by simpa using heq)]; exact h3
def minE : List (Int × Int) → Int
  | [] => 0
  | x :: l => if l = [] then x.2 else min x.2 (minE l)
theorem minE_spec : ∀ (l : List (Int × Int)), l ≠ [] → (∃ x ∈ l, x.2 = minE l) ∧ ∀ x ∈ l, minE l ≤ x.2 := by
  intro l
  induction l with
  | nil => intro h; exact absurd rfl h
  | cons x l ih =>
    intro _;simp only [minE]
    by_cases h : l = []
    · subst h;rw [if_pos rfl];exact ⟨⟨x, by simp, rfl⟩, fun y hy => by rw [List.mem_singleton] at hy; subst hy; exact Int.le_refl _⟩
    · rw [if_neg h];obtain ⟨⟨y, hy, e⟩, h2⟩ := ih h;refine ⟨?_, fun z hz => ?_⟩
      · rcases Int.le_total x.2 (minE l) with h3 | h3
        · exact ⟨x, by simp, by omega⟩
        · exact ⟨y, by simp [hy], by omega⟩
      · rcases List.mem_cons.1 hz with rfl | hz
        · omega
        · have := h2 z hz; omega
theorem firstF_bnd (h rack : Bool) (slot : Int) : Bnd (firstF h rack slot) 0 := by
  intro p v hv;unfold firstF at hv
  split at hv
  · cases hv
  · cases hv; omega
theorem canL_len (h : Bool) (f : Nat → Option Int) : (canL (nN h) f).length ≤ nN h := by
  have := List.length_filterMap_le (fun p => (f p).map fun v => ((p : Int), v)) (List.range (nN h));rw [List.length_range] at this;exact this
theorem ev_MissesP {n : Nat} (hn : 3000 < n) {h rack : Bool} {q : List (Int × Int)} (hq : q.length ≤ 8) (hc : ev_strike_Check n h rack q = some 0) {l : List (Int × Int)} (hl : OkHd l) {x0 : Int × Int} (hx0 : l[0]? = some x0) (hsort : ∀ z : List Int, z.Perm (((canL (nN h) (missF h rack q l x0.1 (firstF h rack x0.1))).filter fun x => x.2 == minE (canL (nN h) (missF h rack q l x0.1 (firstF h rack x0.1)))).map (·.1)) → ev_slices_Sort_Lint_int n z = some (isort lessI z)) :
    ev_strike_Misses n h rack q l = some (if canL (nN h) (missF h rack q l x0.1 (firstF h rack x0.1)) = [] then (0, [], 9) else (minE (canL (nN h) (missF h rack q l x0.1 (firstF h rack x0.1))), ((canL (nN h) (missF h rack q l x0.1 (firstF h rack x0.1))).filter fun x => x.2 == minE (canL (nN h) (missF h rack q l x0.1 (firstF h rack x0.1)))).map (·.1), 0)) := by
  have hN : 12 ≤ plN h ∧ plN h ≤ 24 := by rcases plN_or h with e | e <;> omega
  have hNc := nN_cast h;have hlen := hl.len;have hlt0 : 0 < l.length := by omega
  have hx0' : x0 = l[0] := by rw [List.getElem?_eq_getElem hlt0] at hx0; exact (Option.some.inj hx0).symm
  have hok0 := (hl.ok x0 (hx0' ▸ List.getElem_mem hlt0)).1;have ho : ev_strike_open n h rack q = some (h, rack, q, plN h, 0) := by
    have hpl : ev_strike_places n h rack q = some (plN h) := by rw [ev_strike_places]; cases h <;> rfl
    rw [ev_strike_open, bind_of hpl, bind_of hc]
  -- the last loop
  have fin : ∀ (F : Nat → Option Int) (m : Nat) (a : Int), F = missF h rack q l x0.1 (firstF h rack x0.1) → 0 < m → ev_strike_Misses_l2 n l m a (l.length : Int) h rack (plN h) (canL (nN h) F) l q = some (if canL (nN h) F = [] then (0, [], 9) else (minE (canL (nN h) F), ((canL (nN h) F).filter fun x => x.2 == minE (canL (nN h) F)).map (·.1), 0)) := by
    intro F m a hFF hm
    cases m with
    | zero => omega
    | succ m =>
      have hE := canL_len h F;have hN24 : nN h ≤ 24 := by omega
      rw [ev_strike_Misses_l2, cond_if, if_neg (by simp), cond_if]
      by_cases he : canL (nN h) F = []
      · rw [if_pos (by rw [he]; rfl), if_pos he]
      · rw [if_neg (by rw [beq_iff_eq]; intro h0; exact he (List.length_eq_zero_iff.1 (by omega))), if_neg he];exact ev_l4 (canL_sorted _ F) (minE_spec _ he) (by omega) (fun z hz => hsort z (by rw [← hFF]; exact hz)) _ n (canL (nN h) F) [] 0 [] true rfl (by omega) (.refl _) (.inl ⟨rfl, rfl, rfl⟩)
  -- what is heard
  have mid : ∀ (k m i : Nat) (a : Int) (F : Nat → Option Int) (B : Int), i + k = l.length → k < m → 0 ≤ a → a ≤ 2000001 → (∀ y, l[i]? = some y → a ≤ y.1 ∧ y.1 - a ≤ 2000) → x0.1 ≤ a → 0 ≤ B → B + (x0.1 + 2000 - a) + (k : Int) ≤ 5000 → a ≤ x0.1 + 2000 → Bnd F B → missF h rack q (l.drop i) a F = missF h rack q l x0.1 (firstF h rack x0.1) →
      ev_strike_Misses_l2 n l m a (i : Int) h rack (plN h) (canL (nN h) F) l q = some (if canL (nN h) (missF h rack q (l.drop i) a F) = [] then (0, [], 9) else (minE (canL (nN h) (missF h rack q (l.drop i) a F)), ((canL (nN h) (missF h rack q (l.drop i) a F)).filter fun x => x.2 == minE (canL (nN h) (missF h rack q (l.drop i) a F))).map (·.1), 0)) := by
    intro k
    induction k with
    | zero =>
      intro m i a F B hi hm _ _ _ _ _ _ _ _ hFF;have : i = l.length := by omega
      subst this;rw [List.drop_length] at hFF ⊢;exact fin F m a hFF (by omega)
    | succ k ih =>
      intro m i a F B hi hm ha ha2 hay hxa hB hB2 ha3 hF hFF
      cases m with
      | zero => omega
      | succ m =>
        have hlt : i < l.length := by omega
        obtain ⟨y, hy⟩ : ∃ y, y = l[i] := ⟨_, rfl⟩;have hget : l[i]? = some y := by rw [hy, List.getElem?_eq_getElem hlt]
        obtain ⟨g1, g2⟩ := hay y hget;obtain ⟨o1, o2⟩ := hl.ok y (hy ▸ List.getElem_mem hlt);have hspan : y.1 ≤ x0.1 + 1999 := by
          have hlast : l[l.length - 1]? = some l[l.length - 1] := List.getElem?_eq_getElem (by omega);have := hl.span x0 _ hx0 hlast;rcases Nat.lt_or_ge i (l.length - 1) with h1 | h1
          · have := List.pairwise_iff_getElem.1 hl.asc i (l.length - 1) hlt (by omega) h1;rw [← hy] at this; omega
          · have : i = l.length - 1 := by omega
            subst this;rw [← hy] at *; omega
        rw [ev_strike_Misses_l2, cond_if, if_pos (by simp; omega), idx_nat hget, List.drop_eq_getElem_cons hlt, ← hy];simp only [missF]
        -- the slots before it
        have gap : ∀ (d m2 : Nat) (b : Int) (G : Nat → Option Int) (C : Int), b + d = y.1 → d < m2 → a ≤ b → 0 ≤ C → C + d ≤ 5000 → Bnd G C →
            ev_strike_Misses_l3 n y h rack q (plN h) (i : Int) l (fun i16q i17q b18q b19q i20q l21q l22q l23q => ev_strike_Misses_l2 n l m i16q i17q b18q b19q i20q l21q l22q l23q) m2 b (canL (nN h) G) =
            ev_strike_Misses_l2 n l m (y.1 + 1) ((i + 1 : Nat) : Int) h rack (plN h) (canL (nN h) (afterF h rack q y.1 (fun b => b == y.2) (gapF h rack q d b G))) l q := by
          intro d
          induction d with
          | zero =>
            intro m2 b G C hb hm2 hab hC hC2 hG
            cases m2 with
            | zero => omega
            | succ m2 =>
              have : b = y.1 := by omega
              subst this;rw [ev_strike_Misses_l3, cond_if, if_neg (by simp), bind_of (ev_after (by omega) hq (show 0 ≤ y.1 by omega) (hv := fun a => ev_strike_Misses_2 n a y.1 y.2) (hp := fun b => b == y.2) (fun b => rfl) (fun p v hv => by have := hG p v hv; omega)), chk_of (in64_of (by omega)), chk_of (in64_of (by omega))]
              rfl
          | succ d ihd =>
            intro m2 b G C hb hm2 hab hC hC2 hG
            cases m2 with
            | zero => omega
            | succ m2 =>
              rw [ev_strike_Misses_l3, cond_if, if_pos (by simp; omega), bind_of (ev_after (by omega) hq (show 0 ≤ b by omega) (hv := fun a => ev_strike_Misses_1 n a) (hp := fun _ => true) (fun b => rfl) (fun p v hv => by have := hG p v hv; omega)), chk_of (in64_of (by omega))];exact ihd m2 (b + 1) _ (C + 1) (by omega) (by omega) (by omega) (by omega) (by omega) (after_bnd hG)
        rw [gap (y.1 - a).toNat n a F B (by omega) (by omega) (Int.le_refl _) hB (by omega) hF];refine ih m (i + 1) (y.1 + 1) _ (B + ((y.1 - a).toNat : Int) + 1) (by omega) (by omega) (by omega) (by omega) (fun z hz => ?_) (by omega) (by omega) (by omega) (by omega) (after_bnd (gap_bnd _ _ _ _ hF)) (by rw [List.drop_eq_getElem_cons hlt, ← hy] at hFF; exact hFF);obtain ⟨hl2, rfl⟩ := List.getElem?_eq_some_iff.1 hz;have h1 := List.pairwise_iff_getElem.1 hl.asc i (i + 1) hlt hl2 (by omega);rw [← hy] at h1;have hlast : l[l.length - 1]? = some l[l.length - 1] := List.getElem?_eq_getElem (by omega);have h2 := hl.span x0 _ hx0 hlast;have h3 : l[i + 1].1 ≤ l[l.length - 1].1 := by
          rcases Nat.lt_or_ge (i + 1) (l.length - 1) with h4 | h4
          · have := List.pairwise_iff_getElem.1 hl.asc (i + 1) (l.length - 1) hl2 (by omega) h4; omega
          · have : i + 1 = l.length - 1 := by omega
            simp only [this]; exact Int.le_refl _
        omega
  -- where it can be at first
  have ini : ∀ (k m i : Nat), i + k = nN h → k < m → ev_strike_Misses_l1 n (h, rack, q, plN h, 0) x0 m (i : Int) l h rack (plN h) (canL (nN h) fun p => if p < i then firstF h rack x0.1 p else none) q = some (if canL (nN h) (missF h rack q l x0.1 (firstF h rack x0.1)) = [] then (0, [], 9) else (minE (canL (nN h) (missF h rack q l x0.1 (firstF h rack x0.1))), ((canL (nN h) (missF h rack q l x0.1 (firstF h rack x0.1))).filter fun x => x.2 == minE (canL (nN h) (missF h rack q l x0.1 (firstF h rack x0.1)))).map (·.1), 0)) := by
    intro k
    induction k with
    | zero =>
      intro m i hi hm
      cases m with
      | zero => omega
      | succ m =>
        have hcan : (canL (nN h) fun p => if p < i then firstF h rack x0.1 p else none) = canL (nN h) (firstF h rack x0.1) := by
          refine sorted_uniq (canL_sorted _ _) (canL_sorted _ _) fun x => ?_
          rw [mem_canL, mem_canL]
          constructor
          · rintro ⟨p, hp, h1, h2⟩; rw [if_pos (by omega)] at h1; exact ⟨p, hp, h1, h2⟩
          · rintro ⟨p, hp, h1, h2⟩; exact ⟨p, hp, by rw [if_pos (by omega)]; exact h1, h2⟩
        rw [ev_strike_Misses_l1, cond_if, if_neg (by simp; omega), hcan];have := mid l.length n 0 x0.1 (firstF h rack x0.1) 0 (by omega) (by omega) (by omega) (by omega) (fun y hy => by rw [hx0] at hy; cases hy; omega) (Int.le_refl _) (Int.le_refl _) (by omega) (by omega) (firstF_bnd h rack x0.1) (by rw [List.drop_zero]);rw [List.drop_zero] at this;exact this
    | succ k ih =>
      intro m i hi hm
      cases m with
      | zero => omega
      | succ m =>
        have hput : ∀ F : Nat → Option Int, firstF h rack x0.1 i = some 0 → F = (fun p => if p < i then firstF h rack x0.1 p else none) → mputS kl90 (canL (nN h) F) (i : Int) 0 = canL (nN h) fun p => if p < i + 1 then firstF h rack x0.1 p else none := by
          intro F hfi hF;rw [mputS_can (by omega), hF]
          congr 1
          funext p
          show (if p = i then some (0 : Int) else if p < i then firstF h rack x0.1 p else none) = if p < i + 1 then firstF h rack x0.1 p else none
          by_cases h1 : p = i
          · subst h1; rw [if_pos rfl, if_pos (by omega), hfi]
          · rw [if_neg h1]
            by_cases h2 : p < i
            · rw [if_pos h2, if_pos (by omega)]
            · rw [if_neg h2, if_neg (by omega)]
        have hno : firstF h rack x0.1 i = none → (canL (nN h) fun p => if p < i then firstF h rack x0.1 p else none) = canL (nN h) fun p => if p < i + 1 then firstF h rack x0.1 p else none := by
          intro hfi
          congr 1
          funext p
          show (if p < i then firstF h rack x0.1 p else none) = if p < i + 1 then firstF h rack x0.1 p else none
          by_cases h1 : p = i
          · subst h1; rw [if_neg (by omega), if_pos (by omega), hfi]
          · by_cases h2 : p < i
            · rw [if_pos h2, if_pos (by omega)]
            · rw [if_neg h2, if_neg (by omega)]
        have e : ((i : Int) + 1) = ((i + 1 : Nat) : Int) := by omega
        have et : Int.tmod x0.1 (plN h) = x0.1 % plN h := Int.tmod_eq_emod_of_nonneg hok0.1;rw [ev_strike_Misses_l1, cond_if, if_pos (by simp only [decide_eq_true_eq]; omega), cond_if];have nxt := ih m (i + 1) (by omega) (by omega)
        cases hr : rack with
        | false =>
          subst hr;rw [if_pos (show (!false) = true from rfl), chk_of (in64_of (by omega)), e, hput _ (by simp [firstF]) rfl];exact nxt
        | true =>
          subst hr;rw [if_neg (by simp), chk_of (by simp; omega), et, cond_if]
          by_cases hpl : (i : Int) = x0.1 % plN h
          · rw [if_pos (by simpa using hpl), chk_of (in64_of (by omega)), e, hput _ (by simp [firstF, hpl]) rfl];exact nxt
          · rw [if_neg (by simpa using hpl), chk_of (in64_of (by omega)), e, hno (by simp [firstF, hpl])];exact nxt
  have hnil : ([] : List (Int × Int)) = canL (nN h) fun p => if p < 0 then firstF h rack x0.1 p else none := by
    unfold canL; symm; rw [List.filterMap_eq_nil_iff]; intro a _; rfl
  have := ini (nN h) n 0 (by omega) (by omega);rw [← hnil] at this;rw [ev_strike_Misses, bind_of ho, cond_if, if_pos (by rfl), bind_of (ev_checkHeard (by omega) hl), ev_strike_Misses_j0, cond_if, if_neg (by simp), idx_of (x := x0) (by decide) (by exact hx0)];exact this
end Go.Proofs.Ytglgkcfgjaoabaa.Sy
