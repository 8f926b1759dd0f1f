/- Choosing cutters, in plain terms. -/
import Derived.Test.YtabjhlfgcmmbfaaEvTrain
import Derived.Test.YtabjhlfgcmmbfaaEvMap
import Derived.Test.YtabjhlfgcmmbfaaSpTrain
set_option linter.unusedSimpArgs false
set_option linter.unusedVariables false
namespace Go.Proofs.Ytabjhlfgcmmbfaa.Sy
open Go.RowKit
set_option maxRecDepth 100000

/-- a loop over a list -/
def foldG {X σ : Type} (f : X → σ → Option (Nat × σ)) : List X → σ → Option σ
  | [], y => some y
  | x :: xs, y => match f x y with
    | some (0, y') => foldG f xs y'
    | _ => none
theorem foldG_append {X σ : Type} {f : X → σ → Option (Nat × σ)} : ∀ (a b : List X) (y y' : σ), foldG f (a ++ b) y = some y' → ∃ y1, foldG f a y = some y1 ∧ foldG f b y1 = some y' := by
  intro a
  induction a with
  | nil => intro b y y' h; exact ⟨y, rfl, h⟩
  | cons x a ih =>
    intro b y y' h
    simp only [List.cons_append, foldG] at h ⊢
    split at h
    · rename_i y2 he
      obtain ⟨y1, h1, h2⟩ := ih b y2 y' h
      exact ⟨y1, h1, h2⟩
    · cases h
theorem foldG_cons {X σ : Type} {f : X → σ → Option (Nat × σ)} {x : X} {xs : List X} {y y1 : σ} (h : f x y = some (0, y1)) : foldG f (x :: xs) y = foldG f xs y1 := by
  simp only [foldG, h]
/-- all ascending lists of so many -/
def chS (g : List Int → List (List Int)) : List Int → List (List Int)
  | [] => []
  | x :: tl => (g (x :: tl)).map (x :: ·) ++ chS g tl
def chP : Nat → List Int → List (List Int)
  | 0 => fun _ => [[]]
  | k + 1 => chS (chP k)
def prodL : List Int → Int
  | [] => 1
  | x :: l => x * prodL l
theorem chP_len : ∀ (k : Nat) (l : List Int), (chP k l).length ≤ l.length ^ k := by
  intro k
  induction k with
  | zero => intro l; simp [chP]
  | succ k ih =>
    have : ∀ (l : List Int) (L : Nat), l.length ≤ L → (chS (chP k) l).length ≤ l.length * L ^ k := by
      intro l
      induction l with
      | nil => intro L _; simp [chS]
      | cons x tl iht =>
        intro L hL
        have h1 := ih (x :: tl)
        have h2 := iht L (by simp at hL; omega)
        have h3 : (x :: tl).length ^ k ≤ L ^ k := Nat.pow_le_pow_left hL k
        simp only [chS, List.length_append, List.length_map]
        rw [List.length_cons, Nat.succ_mul]
        omega
    intro l
    have := this l l.length (Nat.le_refl _)
    rw [Nat.pow_succ, Nat.mul_comm]
    exact this
theorem mem_chP : ∀ (k : Nat) (l w : List Int), w ∈ chP k l → w.length = k ∧ ∀ x ∈ w, x ∈ l := by
  intro k
  induction k with
  | zero => intro l w h; simp [chP] at h; subst h; simp
  | succ k ih =>
    intro l
    show ∀ w, w ∈ chS (chP k) l → _
    induction l with
    | nil => intro w h; simp [chS] at h
    | cons x tl iht =>
      intro w h
      simp only [chS, List.mem_append, List.mem_map] at h
      rcases h with ⟨v, hv, rfl⟩ | h
      · obtain ⟨h1, h2⟩ := ih _ v hv
        refine ⟨by simp [h1], fun z hz => ?_⟩
        rcases List.mem_cons.1 hz with rfl | hz
        · simp
        · exact h2 z hz
      · obtain ⟨h1, h2⟩ := iht w h
        exact ⟨h1, fun z hz => List.mem_cons_of_mem _ (h2 z hz)⟩
theorem prodL_bound : ∀ (l : List Int), (∀ x ∈ l, 1 ≤ x ∧ x ≤ 400) → 1 ≤ prodL l ∧ prodL l ≤ 400 ^ l.length := by
  intro l
  induction l with
  | nil => intro _; simp [prodL]
  | cons x l ih =>
    intro h
    have h1 := ih fun z hz => h z (by simp [hz])
    have h2 := mul_bound (h x (by simp)) h1
    simp only [prodL, List.length_cons]
    rw [Int.pow_succ, Int.mul_comm (400 ^ l.length)]
    exact h2
theorem ev_ch {σ : Type} {f : ((List Int) × Int) → σ → Option (Nat × σ)} : ∀ (k N : Nat) (rest now : List Int) (p c : Int) (y y' : σ), rest.length + k < N → (∀ x ∈ rest, 1 ≤ x ∧ x ≤ 400) → 1 ≤ p ∧ p ≤ 400 ^ now.length → now.length + k ≤ 5 → c = ((now.length + k : Nat) : Int) → rest.length ≤ 100 →
    foldG f ((chP k rest).map fun w => (now ++ w, p * prodL w)) y = some y' → ev_train_choose_1 (loopStep f) N rest now p (y, 0) c c = some (true, (y', 0)) := by
  intro k
  induction k with
  | zero =>
    intro N rest now p c y y' hN hr hp hk hc hrl hf
    cases N with
    | zero => omega
    | succ N =>
      rw [ev_train_choose_1, cond_if, if_pos (by rw [beq_iff_eq, hc]; rfl)]
      simp only [chP, List.map_cons, List.map_nil, List.append_nil, prodL, Int.mul_one, foldG] at hf
      split at hf
      · rename_i y2 he
        cases hf
        rw [bind_of (loopStep_of he)]; rfl
      · cases hf
  | succ k ih =>
    intro N rest now p c y y' hN hr hp hk hc hrl hf
    cases N with
    | zero => omega
    | succ N =>
      have key : ∀ (d m i : Nat) (y1 : σ), i + d = rest.length → d < m → foldG f ((chS (chP k) (rest.drop i)).map fun w => (now ++ w, p * prodL w)) y1 = some y' →
          ev_train_choose_1_l0 (loopStep f) N rest (ev_train_choose_1 (loopStep f) N) m (i : Int) rest p c now (y1, 0) = some (true, (y', 0)) := by
        intro d
        induction d with
        | zero =>
          intro m i y1 hi hm hf
          cases m with
          | zero => omega
          | succ m =>
            rw [List.drop_eq_nil_of_le (by omega)] at hf
            simp only [chS, List.map_nil, foldG, Option.some.injEq] at hf
            rw [ev_train_choose_1_l0, cond_if, if_neg (by simp; omega), hf]
        | succ d ihd =>
          intro m i y1 hi hm hf
          cases m with
          | zero => omega
          | succ m =>
            have hlt : i < rest.length := by omega
            have hx := hr _ (List.getElem_mem hlt)
            have hdr := List.drop_eq_getElem_cons hlt
            rw [hdr] at hf
            simp only [chS, List.map_append, List.map_map] at hf
            obtain ⟨y2, h1, h2⟩ := foldG_append _ _ _ _ hf
            have hpw := pow_le (i := now.length + 1) (by omega)
            have hps : (400 : Int) ^ (now.length + 1) = 400 ^ now.length * 400 := by rw [Int.pow_succ]
            have hpx := mul_bound hp hx
            have e : ((fun w => (now ++ w, p * prodL w)) ∘ fun w => rest[i] :: w) = fun w : List Int => ((now ++ [rest[i]]) ++ w, p * rest[i] * prodL w) := by
              funext w
              simp only [Function.comp, prodL, List.append_assoc, List.singleton_append, Int.mul_assoc]
            rw [e, ← hdr] at h1
            have hin := ih N (rest.drop i) (now ++ [rest[i]]) (p * rest[i]) c y1 y2 (by rw [List.length_drop]; omega) (fun x hx => hr x (List.mem_of_mem_drop hx)) ⟨hpx.1, by rw [List.length_append]; simp only [List.length_singleton]; omega⟩ (by rw [List.length_append]; simp only [List.length_singleton]; omega) (by rw [hc, List.length_append]; simp only [List.length_singleton]; omega) (by rw [List.length_drop]; omega) h1
            have et : List.drop ((i : Int)).toNat (List.take ((rest.length : Int)).toNat rest) = rest.drop i := by
              rw [Int.toNat_natCast, Int.toNat_natCast, List.take_length]
            rw [ev_train_choose_1_l0, cond_if, if_pos (by simp; omega), idx_nat (List.getElem?_eq_getElem hlt), chk_of (by simp; omega), ev_slices_Clip_Lint_int, bind_of rfl, chk_of (show Nat.blt 0 [rest[i]].length = true from rfl), chk_of (room_iff.2 (by simp; omega)), chk_of (in64_of (by omega)), et, bind_of hin, cond_if, if_neg (by simp), chk_of (in64_of (by omega))]
            exact ihd m (i + 1) y2 (by omega) (by omega) h2
      rw [ev_train_choose_1, cond_if, if_neg (by rw [beq_iff_eq, hc]; omega)]
      exact key rest.length N 0 y (by omega) (by omega) (by rw [List.drop_zero]; exact hf)
theorem ev_choose {σ : Type} {f : ((List Int) × Int) → σ → Option (Nat × σ)} {n k : Nat} {l : List Int} {y y' : σ} (hn : 110 < n) (hl : l.length ≤ 100) (hk : k ≤ 5) (h : ∀ x ∈ l, 1 ≤ x ∧ x ≤ 400)
    (hf : foldG f ((chP k l).map fun w => (w, prodL w)) y = some y') : ev_train_choose_2 (loopStep f) n (y, 0) (k : Int) l = some (y', 0) := by
  have := ev_ch (f := f) k n l [] 1 (k : Int) y y' (by omega) h (by simp) (by simpa using hk) (by simp) hl (by simpa using hf)
  rw [ev_train_choose_2, bind_of this]
/-- a map from products to lists -/
theorem fold_by {n : Nat} : ∀ (L : List ((List Int) × Int)) (y : List (Int × List (List Int))), (∀ k, ((mlook y k).getD []).length + L.length ≤ 1000000) →
    ∃ y', foldG (ev_train_search_exact_r0 n) L y = some y' ∧ ∀ k, (mlook y' k).getD [] = (mlook y k).getD [] ++ (L.filter fun x => x.2 == k).map (·.1) := by
  intro L
  induction L with
  | nil => intro y _; exact ⟨y, rfl, fun k => by simp⟩
  | cons x L ih =>
    intro y hb
    have hx := hb x.2
    rw [List.length_cons] at hx
    have hr : ev_train_search_exact_r0 n x y = some (0, mput y x.2 (((mlook y x.2).getD []) ++ [x.1])) := by
      rw [ev_train_search_exact_r0, chk_of (room_iff.2 (by simp; omega))]
    obtain ⟨y', h1, h2⟩ := ih (mput y x.2 (((mlook y x.2).getD []) ++ [x.1])) fun k => by
      have := hb k
      rw [List.length_cons] at this
      by_cases hk : x.2 = k
      · subst hk; rw [mlook_put_same]; simp; omega
      · rw [mlook_put_ne _ _ hk]; omega
    refine ⟨y', by rw [foldG_cons hr]; exact h1, fun k => ?_⟩
    rw [h2 k]
    by_cases hk : x.2 = k
    · subst hk; rw [mlook_put_same, List.filter_cons, if_pos (by simp)]; simp
    · rw [mlook_put_ne _ _ hk, List.filter_cons, if_neg (by simpa using hk)]
/-- the trains with some wheels -/
def exW (by_ : Int → List (List Int)) (num den : Int) (x : (List Int) × Int) : List ((List Int) × (List Int)) :=
  if x.2 % num = 0 then (by_ (x.2 / num * den)).map fun p => (x.1, p) else []
theorem ev_r1 {n : Nat} {q : List (Int × List (List Int)) × Nat} {x : (List Int) × Int} {num den : Int} {acc : List ((List Int) × (List Int))} (hn : 1 ≤ num ∧ num ≤ 1000000) (hd : 1 ≤ den ∧ den ≤ 1000000) (hx : 1 ≤ x.2 ∧ x.2 ≤ 4096000000000)
    (hxl : x.1.length ≤ 10) (hq : ∀ k, ((mlook q.1 k).getD []).length < n ∧ ((mlook q.1 k).getD []).length ≤ 1000000 ∧ ∀ p ∈ (mlook q.1 k).getD [], p.length ≤ 10) (hacc : acc.length ≤ 1000000000000) :
    ev_train_search_exact_r1 n q x (acc, num, den) = some (0, (acc ++ exW (fun k => (mlook q.1 k).getD []) num den x, num, den)) := by
  have e1 : Int.tmod x.2 num = x.2 % num := Int.tmod_eq_emod_of_nonneg (by omega)
  have e2 : Int.tdiv x.2 num = x.2 / num := Int.tdiv_eq_ediv_of_nonneg (by omega)
  have hm := Int.emod_nonneg x.2 (show num ≠ 0 by omega)
  have hd0 : 0 ≤ x.2 / num ∧ x.2 / num ≤ 4096000000000 := by
    refine ⟨Int.ediv_nonneg (by omega) (by omega), ?_⟩
    have := Int.ediv_le_self (a := x.2) num (by omega)
    omega
  have hp : 0 ≤ x.2 / num * den ∧ x.2 / num * den ≤ 4096000000000 * 1000000 :=
    ⟨Int.mul_nonneg hd0.1 (by omega), Int.mul_le_mul hd0.2 hd.2 (by omega) (by omega)⟩
  rw [ev_train_search_exact_r1, chk_of (by simp; omega)]
  simp only [e1, e2]
  rw [cond_if]
  unfold exW
  by_cases h0 : x.2 % num = 0
  · rw [if_neg (by simp; omega), chk_of (by simp; omega), chk_of (in64_of (by omega)), chk_of (in64_of (by omega)), if_pos h0]
    obtain ⟨B, hB⟩ : ∃ B, B = (mlook q.1 (x.2 / num * den)).getD [] := ⟨_, rfl⟩
    obtain ⟨q1, q2, q3⟩ := hq (x.2 / num * den)
    rw [← hB] at q1 q2 q3
    show _ = some (0, (acc ++ ((mlook q.1 (x.2 / num * den)).getD []).map fun p => (x.1, p), num, den))
    rw [← hB]
    have key : ∀ (d m i : Nat) (a : List ((List Int) × (List Int))), i + d = B.length → d < m → a.length + d ≤ 2000000000000 → ev_train_search_exact_l2 n q x (acc, num, den) m (i : Int) x.2 num den a = some (0, (a ++ (B.drop i).map fun p => (x.1, p)), num, den) := by
      intro d
      induction d with
      | zero =>
        intro m i a hi hm ha
        cases m with
        | zero => omega
        | succ m =>
          rw [ev_train_search_exact_l2]
          simp only [e2]
          rw [← hB, cond_if, if_neg (by simp; omega), List.drop_eq_nil_of_le (by omega)]
          simp
      | succ d ih =>
        intro m i a hi hm ha
        cases m with
        | zero => omega
        | succ m =>
          have hlt : i < B.length := by omega
          have hpl := q3 _ (List.getElem_mem hlt)
          rw [ev_train_search_exact_l2]
          simp only [e2]
          rw [← hB, cond_if, if_pos (by simp; omega), idx_nat (List.getElem?_eq_getElem hlt), ev_slices_Clone_Lint_int, chk_of (room_iff.2 (by simp; omega)), bind_of rfl, ev_slices_Clone_Lint_int, chk_of (room_iff.2 (by simp; omega)), bind_of rfl, chk_of (room_iff.2 (by simp; omega)), chk_of (in64_of (by omega))]
          have := ih m (i + 1) (a ++ [([] ++ x.1, [] ++ B[i])]) (by omega) (by omega) (by simp; omega)
          rw [List.drop_eq_getElem_cons hlt]
          refine this.trans ?_
          simp only [List.append_assoc, List.nil_append, List.singleton_append, List.map_cons]
    have := key B.length n 0 acc (by omega) q1 (by omega)
    rw [List.drop_zero] at this
    exact this
  · rw [if_pos (by simp; omega), if_neg h0]
    simp
theorem fold_ex {n : Nat} {q : List (Int × List (List Int)) × Nat} {num den : Int} (hn : 1 ≤ num ∧ num ≤ 1000000) (hd : 1 ≤ den ∧ den ≤ 1000000)
    (hq : ∀ k, ((mlook q.1 k).getD []).length < n ∧ ((mlook q.1 k).getD []).length ≤ 1000000 ∧ ∀ p ∈ (mlook q.1 k).getD [], p.length ≤ 10) :
    ∀ (L : List ((List Int) × Int)) (acc : List ((List Int) × (List Int))), (∀ x ∈ L, (1 ≤ x.2 ∧ x.2 ≤ 4096000000000) ∧ x.1.length ≤ 10) → acc.length + L.length * 1000000 ≤ 1000000000000 →
      foldG (ev_train_search_exact_r1 n q) L (acc, num, den) = some (acc ++ L.flatMap (exW (fun k => (mlook q.1 k).getD []) num den), num, den) := by
  intro L
  induction L with
  | nil => intro acc _ _; simp [foldG]
  | cons x L ih =>
    intro acc hL ha
    obtain ⟨g1, g2⟩ := hL x (by simp)
    rw [List.length_cons] at ha
    rw [foldG_cons (ev_r1 hn hd g1 g2 hq (by omega)), ih _ (fun z hz => hL z (by simp [hz])) ?_]
    · simp
    · have : (exW (fun k => (mlook q.1 k).getD []) num den x).length ≤ 1000000 := by
        unfold exW; split
        · rw [List.length_map]; exact (hq _).2.1
        · simp
      rw [List.length_append]; omega
/-- all trains with so many pairs -/
def exactP (W P : List Int) (num den : Int) (k : Nat) : List ((List Int) × (List Int)) :=
  (chP k W).flatMap fun w => if prodL w % num = 0 then ((chP k P).filter fun p => prodL p == prodL w / num * den).map fun p => (w, p) else []
theorem flatMap_congr' {α β : Type} {f g : α → List β} : ∀ {l : List α}, (∀ x ∈ l, f x = g x) → l.flatMap f = l.flatMap g := by
  intro l
  induction l with
  | nil => intro _; rfl
  | cons a l ih => intro h; rw [List.flatMap_cons, List.flatMap_cons, h a (by simp), ih fun x hx => h x (by simp [hx])]
theorem pow5_le {i : Nat} (h : i ≤ 4) : 1 ≤ (400 : Int) ^ i ∧ (400 : Int) ^ i ≤ 25600000000 := by
  have : ∀ j : Fin 5, 1 ≤ (400 : Int) ^ j.1 ∧ (400 : Int) ^ j.1 ≤ 25600000000 := by decide
  exact this ⟨i, by omega⟩
theorem ev_exact {n k : Nat} {W P : List Int} {num den : Int} (hn0 : 110 < n) (hk : k ≤ 4) (hn : 1 ≤ num ∧ num ≤ 1000000) (hd : 1 ≤ den ∧ den ≤ 1000000) (hW : ∀ x ∈ W, 1 ≤ x ∧ x ≤ 400) (hP : ∀ x ∈ P, 1 ≤ x ∧ x ≤ 400) (hWl : W.length ≤ 12) (hPl : P.length ≤ 12) (hb : (chP k P).length < n) :
    ev_train_search_exact n W P num den (k : Int) = some (exactP W P num den k) := by
  have h12 : ∀ l : List Int, l.length ≤ 12 → (chP k l).length ≤ 20736 := by
    intro l hl
    have h1 := chP_len k l
    have h2 : l.length ^ k ≤ 12 ^ k := Nat.pow_le_pow_left hl k
    have h3 : 12 ^ k ≤ 12 ^ 4 := Nat.pow_le_pow_right (by decide) hk
    omega
  obtain ⟨M, hM⟩ : ∃ M, M = (chP k P).map fun w => (w, prodL w) := ⟨_, rfl⟩
  have hMl : M.length = (chP k P).length := by rw [hM, List.length_map]
  have hPL := h12 P hPl
  have hWL := h12 W hWl
  obtain ⟨y', hy, hlk⟩ := fold_by (n := n) M [] fun k => by
    have : (mlook ([] : List (Int × List (List Int))) k).getD [] = [] := rfl
    rw [this, List.length_nil]; omega
  have hlk : ∀ k', (mlook y' k').getD [] = (M.filter fun x => x.2 == k').map (·.1) := fun k' => by
    rw [hlk k']; rfl
  have hq : ∀ k', ((mlook y' k').getD []).length < n ∧ ((mlook y' k').getD []).length ≤ 1000000 ∧ ∀ p ∈ (mlook y' k').getD [], p.length ≤ 10 := by
    intro k'
    rw [hlk k', List.length_map]
    have h1 := List.length_filter_le (fun x : (List Int) × Int => x.2 == k') M
    refine ⟨by omega, by omega, fun p hp => ?_⟩
    obtain ⟨x, hx, rfl⟩ := List.mem_map.1 hp
    have hx := (List.mem_filter.1 hx).1
    rw [hM] at hx
    obtain ⟨w, hw, rfl⟩ := List.mem_map.1 hx
    have := (mem_chP k P w hw).1
    simp only; omega
  have hc1 := ev_choose (n := n) hn0 (by omega) (show k ≤ 5 by omega) hP (by rw [← hM]; exact hy)
  have hL : ∀ x ∈ (chP k W).map fun w => (w, prodL w), (1 ≤ x.2 ∧ x.2 ≤ 4096000000000) ∧ x.1.length ≤ 10 := by
    intro x hx
    obtain ⟨w, hw, rfl⟩ := List.mem_map.1 hx
    obtain ⟨h1, h2⟩ := mem_chP k W w hw
    have h3 := prodL_bound w fun z hz => hW z (h2 z hz)
    have h4 := pow5_le (i := w.length) (by omega)
    simp only; omega
  have hfe := fold_ex (n := n) (q := (y', 0)) hn hd hq ((chP k W).map fun w => (w, prodL w)) [] hL (by rw [List.length_nil, List.length_map]; omega)
  have hc2 := ev_choose (n := n) hn0 (by omega) (show k ≤ 5 by omega) hW hfe
  rw [ev_train_search_exact, ev_train_choose, bind_of rfl]
  simp only
  rw [bind_of hc1, cond_if, if_pos (by rfl), ev_train_choose, bind_of rfl]
  simp only
  rw [bind_of hc2, cond_if, if_pos (by rfl)]
  simp only [List.nil_append, Option.some.injEq]
  unfold exactP
  rw [List.flatMap_map]
  refine flatMap_congr' fun w hw => ?_
  unfold exW
  simp only
  split
  · rw [hlk, hM, List.filter_map, List.map_map, List.map_map]
    rfl
  · rfl
/-- a shop is valid -/
structure OkCut (l : List Int) : Prop where
  ok : ∀ x ∈ l, 6 ≤ x ∧ x ≤ 400
  asc : l.Pairwise (· < ·)
  len : 1 ≤ l.length ∧ l.length ≤ 12
theorem compact_asc {l : List Int} (h : l.Pairwise (· < ·)) : (Lib.compact l).length = l.length := by
  unfold Lib.compact Lib.compactUpTo
  rw [List.length_map]
  have : (List.range l.length).filter (Lib.keeps l.toArray) = List.range l.length := by
    rw [List.filter_eq_self]
    intro i hi
    have hi := List.mem_range.1 hi
    unfold Lib.keeps
    cases i with
    | zero => rfl
    | succ i =>
      have h1 := List.pairwise_iff_getElem.1 h i (i + 1) (by omega) hi (by omega)
      simp only [Nat.add_sub_cancel, Bool.or_eq_true, bne_iff_ne, ne_eq]
      simp [hi, show i < l.length by omega]
      omega
  rw [this, List.length_range]
theorem less_ev {n : Nat} (x y : Int) : ev_cmp_Less_int n x y = some (decide (x < y)) := by
  simp only [ev_cmp_Less_int, ev_cmp_isNaN_int, bind_of, Option.bind_some, bne_self_eq_false, cond_if, Bool.false_eq_true, if_false]
theorem ev_isSorted {n : Nat} {l : List Int} (h : l.Pairwise (· < ·)) (hl : l.length ≤ 1000) (hn : 1000 < n) : ev_slices_IsSorted_Lint_int n l = some true := by
  have key : ∀ (k m : Nat), k < l.length ∨ l.length = 0 ∧ k = 0 → k < m → ev_slices_IsSorted_Lint_int_l0 n l m (k : Int) = some true := by
    intro k
    induction k with
    | zero =>
      intro m _ hm
      cases m with
      | zero => omega
      | succ m => rw [ev_slices_IsSorted_Lint_int_l0, cond_if, if_neg (by simp)]
    | succ k ih =>
      intro m hk hm
      cases m with
      | zero => omega
      | succ m =>
        have hk : k + 1 < l.length := by omega
        have hlt := List.pairwise_iff_getElem.1 h k (k + 1) (by omega) hk (by omega)
        have e : (((k + 1 : Nat) : Int) - 1) = (k : Int) := by omega
        rw [ev_slices_IsSorted_Lint_int_l0, cond_if, if_pos (decide_eq_true (by omega)), idx_nat (List.getElem?_eq_getElem hk), chk_of (in64_of (by omega)), e, idx_nat (List.getElem?_eq_getElem (show k < l.length by omega)), less_ev, bind_of rfl, cond_if, if_neg (fun h => by have := of_decide_eq_true h; omega), chk_of (in64_of (by omega))]
        exact ih m (by omega) (by omega)
  rw [ev_slices_IsSorted_Lint_int, chk_of (in64_of (by omega))]
  cases l with
  | nil =>
    have : 0 < n := by omega
    obtain ⟨m, rfl⟩ : ∃ m, n = m + 1 := ⟨n - 1, by omega⟩
    rw [ev_slices_IsSorted_Lint_int_l0, cond_if, if_neg (by simp)]
  | cons a t =>
    have := key t.length n (by simp) (by simp at hl; omega)
    rw [show (((a :: t).length : Int) - 1) = (t.length : Int) by simp]
    exact this
theorem ev_Check_ok {n : Nat} (hn : 1000 < n) {W P : List Int} (hW : OkCut W) (hP : OkCut P) : ev_train_Check n W P = some 0 := by
  have l1 := hW.len
  have l2 := hP.len
  have te : ∀ l : List Int, OkCut l → ev_train_isTeeth n l = some true := by
    intro l hl
    have := hl.len
    rw [ev_train_isTeeth, bind_of (wi_train (by omega) (by omega))]
    congr 1
    rw [List.all_eq_true]
    intro x hx
    have := hl.ok x hx
    simp; omega
  have one : ∀ (l : List Int) (k : Option Int), OkCut l → cond ((l.length : Int) == 0) (some 2) ((ev_train_isTeeth n l).bind fun r9 => cond (!r9) (some 2) ((ev_slices_IsSorted_Lint_int n l).bind fun r10 => cond (!r10) (some 2) ((ev_slices_Clone_Lint_int n l).bind fun r11 => (ev_slices_Compact_Lint_int n r11).bind fun r12 => cond (decide ((r12.length : Int) < (l.length : Int))) (some 2) k))) = k := by
    intro l k hl
    have := hl.len
    rw [cond_if, if_neg (by rw [beq_iff_eq]; omega), bind_of (te l hl), cond_if, if_neg (by simp), bind_of (ev_isSorted hl.asc (by omega) hn), cond_if, if_neg (by simp), ev_slices_Clone_Lint_int, chk_of (room_iff.2 (by simp; omega)), bind_of rfl, List.nil_append, ev_slices_Compact_Lint_int, chk_of (room_iff.2 (by omega)), bind_of rfl, cond_if, if_neg (by rw [compact_asc hl.asc]; simp)]
  obtain ⟨m, rfl⟩ : ∃ m, n = m + 3 := ⟨n - 3, by omega⟩
  rw [ev_train_Check, ev_train_Check_l0, cond_if, if_pos (by decide), chk_of (by decide), idx_of (x := W) (by decide) rfl, cond_if, if_neg (by simp; omega), chk_of (by decide), show (0 : Int) + 1 = 1 from rfl,
    ev_train_Check_l0, cond_if, if_pos (by decide), chk_of (by decide), idx_of (x := P) (by decide) rfl, cond_if, if_neg (by simp; omega), chk_of (by decide), show (1 : Int) + 1 = 2 from rfl, ev_train_Check_l0, cond_if, if_neg (by decide),
    ev_train_Check_l1, cond_if, if_pos (by decide), chk_of (by decide), idx_of (x := W) (by decide) rfl, one W _ hW, chk_of (by decide), show (0 : Int) + 1 = 1 from rfl,
    ev_train_Check_l1, cond_if, if_pos (by decide), chk_of (by decide), idx_of (x := P) (by decide) rfl, one P _ hP, chk_of (by decide), show (1 : Int) + 1 = 2 from rfl, ev_train_Check_l1, cond_if, if_neg (by decide)]
theorem ev_open_ok {n : Nat} (hn : 1000 < n) {W P : List Int} (hW : OkCut W) (hP : OkCut P) {a b : Int} (ha : 1 ≤ a ∧ a ≤ 1000000) (hb : 1 ≤ b ∧ b ≤ 1000000) : ev_train_open n W P a b = some (W, P, (lowP a b).1, (lowP a b).2, 0) := by
  have hw : ev_train_isWanted n a b = some true := by
    rw [ev_train_isWanted, bind_of (wi2_train (by omega))]; congr 1; simp; omega
  rw [ev_train_open, bind_of (ev_Check_ok hn hW hP), cond_if, if_neg (by simp), bind_of hw, cond_if, if_neg (by simp), bind_of (ev_lowest (by omega) (by omega) (by omega))]
/-- the trains with the fewest pairs -/
def fewG (W P : List Int) (r : Int × Int) : Nat → Nat → List ((List Int) × (List Int)) × Int
  | 0, _ => ([], 7)
  | k + 1, i => if 2000 < (exactP W P r.1 r.2 (i + 1)).length then ([], 5) else if 0 < (exactP W P r.1 r.2 (i + 1)).length then (exactP W P r.1 r.2 (i + 1), 0) else fewG W P r k (i + 1)
theorem ev_Fewest {n : Nat} (hn : 1000 < n) {W P : List Int} (hW : OkCut W) (hP : OkCut P) {a b : Int} (ha : 1 ≤ a ∧ a ≤ 1000000) (hb : 1 ≤ b ∧ b ≤ 1000000) (hN : P.length ^ 4 < n) : ev_train_Fewest n W P a b = some (fewG W P (lowP a b) 4 0) := by
  obtain ⟨q1, q2, q3, q4⟩ := lowP_pos ha.1 hb.1
  have l1 := hW.len
  have l2 := hP.len
  have key : ∀ (d m i : Nat), i + d = 4 → d < m → ev_train_Fewest_l0 n (W, P, (lowP a b).1, (lowP a b).2, 0) m (i : Int) = some (fewG W P (lowP a b) d i) := by
    intro d
    induction d with
    | zero =>
      intro m i hi hm
      cases m with
      | zero => omega
      | succ m => rw [ev_train_Fewest_l0, cond_if, if_neg (by simp; omega)]; rfl
    | succ d ih =>
      intro m i hi hm
      cases m with
      | zero => omega
      | succ m =>
        have hb2 : (chP (i + 1) P).length < n := by
          have h1 := chP_len (i + 1) P
          have h2 : P.length ^ (i + 1) ≤ P.length ^ 4 := Nat.pow_le_pow_right (by omega) (by omega)
          exact Nat.lt_of_le_of_lt (Nat.le_trans h1 h2) hN
        have he := ev_exact (n := n) (k := i + 1) (W := W) (P := P) (num := (lowP a b).1) (den := (lowP a b).2) (by omega) (by omega) (by omega) (by omega) (fun x hx => by have := hW.ok x hx; omega) (fun x hx => by have := hP.ok x hx; omega) (by omega) (by omega) hb2
        have e : ((i : Int) + 1) = ((i + 1 : Nat) : Int) := by omega
        rw [ev_train_Fewest_l0, cond_if, if_pos (by simp; omega), chk_of (in64_of (by omega)), e]
        simp only
        rw [bind_of he, cond_if, cond_if]
        simp only [fewG]
        by_cases h1 : 2000 < (exactP W P (lowP a b).1 (lowP a b).2 (i + 1)).length
        · rw [if_pos (by simp; omega), if_pos h1]
        · rw [if_neg (by simp; omega), if_neg h1]
          by_cases h2 : 0 < (exactP W P (lowP a b).1 (lowP a b).2 (i + 1)).length
          · rw [if_pos (decide_eq_true (by omega)), if_pos h2]
          · rw [if_neg (fun h => h2 (by have := of_decide_eq_true h; omega)), if_neg h2, chk_of (in64_of (by omega))]
            exact ih m (i + 1) (by omega) (by omega)
  rw [ev_train_Fewest, bind_of (ev_open_ok hn hW hP ha hb), cond_if, if_neg (by simp)]
  exact key 4 n 0 (by omega) (by omega)
theorem mem_exact {W P : List Int} {num den : Int} {k : Nat} {x : (List Int) × (List Int)} : x ∈ exactP W P num den k ↔ x.1 ∈ chP k W ∧ x.2 ∈ chP k P ∧ prodL x.1 % num = 0 ∧ prodL x.2 = prodL x.1 / num * den := by
  unfold exactP
  rw [List.mem_flatMap]
  constructor
  · rintro ⟨w, hw, h⟩
    split at h
    · obtain ⟨p, hp, rfl⟩ := List.mem_map.1 h
      rw [List.mem_filter, beq_iff_eq] at hp
      exact ⟨hw, hp.1, by assumption, hp.2⟩
    · simp at h
  · rintro ⟨h1, h2, h3, h4⟩
    refine ⟨x.1, h1, ?_⟩
    rw [if_pos h3]
    exact List.mem_map.2 ⟨x.2, List.mem_filter.2 ⟨h2, by simpa using h4⟩, rfl⟩
/-- what the fewest are -/
theorem few_spec {W P : List Int} {r : Int × Int} : ∀ (d i : Nat), i + d = 4 → (fewG W P r d i = ([], 7) ∨ fewG W P r d i = ([], 5)) ∨ ∃ k, 1 ≤ k ∧ k ≤ 4 ∧ fewG W P r d i = (exactP W P r.1 r.2 k, 0) ∧ 0 < (exactP W P r.1 r.2 k).length ∧ (exactP W P r.1 r.2 k).length ≤ 2000 := by
  intro d
  induction d with
  | zero => intro i _; exact .inl (.inl rfl)
  | succ d ih =>
    intro i hi
    simp only [fewG]
    split
    · exact .inl (.inr rfl)
    · split
      · exact .inr ⟨i + 1, by omega, by omega, rfl, by omega, by omega⟩
      · exact ih (i + 1) (by omega)
end Go.Proofs.Ytabjhlfgcmmbfaa.Sy
