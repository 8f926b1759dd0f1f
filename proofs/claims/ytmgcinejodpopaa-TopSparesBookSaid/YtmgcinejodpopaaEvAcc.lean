/- What parishes owe, in plain terms. -/
import Derived.Test.YtmgcinejodpopaaGBook
import Derived.Test.YtmgcinejodpopaaSpBook
import Derived.Test.YtmgcinejodpopaaEvL
set_option linter.unusedSimpArgs false
set_option linter.unusedVariables false
namespace Go.Proofs.Ytmgcinejodpopaa.Sy
open Go.RowKit
set_option maxRecDepth 100000

theorem mlook_none {ν : Type} {xs : List (Int × ν)} {k : Int} : mlook xs k = none ↔ ∀ x ∈ xs, x.1 ≠ k := by
  unfold mlook mfind
  constructor
  · intro h x hx e
    cases hf : (xs.map (·.1)).findIdx? (· == k) with
    | none =>
      rw [List.findIdx?_eq_none_iff] at hf
      have := hf x.1 (List.mem_map.2 ⟨x, hx, rfl⟩)
      simp [e] at this
    | some i =>
      rw [hf] at h
      have hi := (List.findIdx?_eq_some_iff_getElem.1 hf).1
      simp only [List.length_map] at hi
      simp [List.getElem?_eq_getElem hi] at h
  · intro h
    have hf : (xs.map (·.1)).findIdx? (· == k) = none := by
      rw [List.findIdx?_eq_none_iff]
      intro y hy
      obtain ⟨x, hx, rfl⟩ := List.mem_map.1 hy
      simpa using h x hx
    rw [hf]; rfl
theorem mput_none {ν : Type} {xs : List (Int × ν)} {k : Int} {v : ν} (h : mlook xs k = none) : mput xs k v = xs ++ [(k, v)] := by
  have hf : mfind xs k = none := by
    unfold mfind
    rw [List.findIdx?_eq_none_iff]
    intro y hy
    obtain ⟨x, hx, rfl⟩ := List.mem_map.1 hy
    simpa using mlook_none.1 h x hx
  unfold mput; rw [hf]
abbrev Card := Int × Int × Int × Int
/-- a card of the first parish -/
def CardOk (c : Card) : Prop := (0 ≤ c.1 ∧ c.1 ≤ 999999) ∧ (0 ≤ c.2.1 ∧ c.2.1 ≤ 36524) ∧ c.2.2.1 = 0 ∧ (-10000000 ≤ c.2.2.2 ∧ c.2.2.2 ≤ 10000000) ∧ c.2.2.2 ≠ 0
def owed (l : List Card) : Int := (l.map (·.2.2.2)).sum
theorem ev_isCard {n : Nat} (hn : 2 < n) {c : Card} (h : CardOk c) : ev_book_isCard n c.1 c.2.1 c.2.2.1 c.2.2.2 = some true := by
  obtain ⟨h1, h2, h3, h4, h5⟩ := h
  rw [ev_book_isCard, bind_of (wi1_book (by omega)), cond_if, if_pos (by simp; omega), bind_of (wi1_book (by omega)), cond_if, if_pos (by simp; omega), bind_of (wi1_book (by omega)), cond_if, if_pos (by simp; omega)]
  have hm : ev_book_isMoney n ([c.2.2.2] : List Int) = some true := by
    rw [ev_book_isMoney, bind_of (wi1_book (by omega))]; congr 1; simp; omega
  rw [bind_of hm, cond_if, if_pos rfl]
  simpa using h5
theorem owed_bound {l : List Card} (h : ∀ c ∈ l, CardOk c) : -(10000000 * (l.length : Int)) ≤ owed l ∧ owed l ≤ 10000000 * (l.length : Int) := by
  induction l with
  | nil => simp [owed]
  | cons c l ih =>
    have h1 := ih fun x hx => h x (List.mem_cons_of_mem _ hx)
    have h2 := (h c (List.mem_cons_self)).2.2.2.1
    simp only [owed, List.map_cons, List.sum_cons, List.length_cons] at h1 ⊢
    omega
theorem ev_Accounts_l {n : Nat} (hn : 2 < n) {cards : List Card} (hc : ∀ c ∈ cards, CardOk c) (hnd : (cards.map (·.1)).Nodup) (hl : cards.length ≤ 400) {o : Int} : ∀ (k m i : Nat) (s : Int) (b : List (Int × Card)), i + k = cards.length → k < m → (-(10000000 * ((i : Int) + 1)) ≤ s ∧ s ≤ 10000000 * ((i : Int) + 1)) →
    (∀ x ∈ b, ∃ j : Nat, j < i ∧ ∃ c, cards[j]? = some c ∧ x.1 = c.1) →
    ev_book_Accounts_l2 n cards m (i : Int) [o] [s] b cards = some ([s + owed (cards.drop i)], 0, 0) := by
  intro k
  induction k with
  | zero =>
    intro m i s b hi hm hs hb
    cases m with
    | zero => omega
    | succ m =>
      rw [ev_book_Accounts_l2, cond_if, if_neg (by simp; omega), List.drop_eq_nil_of_le (by omega)]
      simp [owed]
  | succ k ih =>
    intro m i s b hi hm hs hb
    cases m with
    | zero => omega
    | succ m =>
      have hlt : i < cards.length := by omega
      obtain ⟨c, hcc⟩ : ∃ c, c = cards[i] := ⟨_, rfl⟩
      have hget : cards[i]? = some c := by rw [hcc, List.getElem?_eq_getElem hlt]
      have hok : CardOk c := hc c (hcc ▸ List.getElem_mem hlt)
      have hml : mlook b c.1 = none := mlook_none.2 fun x hx e => by
        obtain ⟨j, hj, c', h1, h2⟩ := hb x hx
        have hjl : j < cards.length := by omega
        have e2 : (cards.map (·.1))[j]'(by simpa using hjl) = (cards.map (·.1))[i]'(by simpa using hlt) := by
          simp only [List.getElem_map, ← hcc]
          rw [List.getElem?_eq_getElem hjl] at h1
          rw [Option.some.inj h1, ← h2, e]
        have := (List.getElem_inj hnd).1 e2
        omega
      have hadd : ev_book_box_add n b c.1 c.2.1 c.2.2.1 c.2.2.2 = some (true, 0, b ++ [(c.1, c)]) := by
        rw [ev_book_box_add, hml, cond_if, if_pos (by rfl), mput_none hml]; rfl
      obtain ⟨_, _, h3, h4, h5⟩ := hok
      rw [ev_book_Accounts_l2, cond_if, if_pos (by simp; omega), idx_nat hget, bind_of (ev_isCard hn (hc c (hcc ▸ List.getElem_mem hlt))), cond_if, if_neg (by simp), cond_if, if_neg (by simp [h3]), ev_book_Accounts_j3, bind_of hadd, cond_if, if_neg (by simp), cond_if, if_pos rfl]
      rw [idx_of (x := s) (by rw [h3]; decide) (by rw [h3]; rfl), chk_of (in64_of (by omega)), chk_of (in64_of (by omega))]
      have hset : List.set [s] (c.2.2.1).toNat (s + c.2.2.2) = [s + c.2.2.2] := by rw [h3]; rfl
      have := ih m (i + 1) (s + c.2.2.2) (b ++ [(c.1, c)]) (by omega) (by omega) (by omega) (fun x hx => by
        rcases List.mem_append.1 hx with hx | hx
        · obtain ⟨j, hj, h⟩ := hb x hx; exact ⟨j, by omega, h⟩
        · rw [List.mem_singleton] at hx; subst hx; exact ⟨i, by omega, c, hget, rfl⟩)
      rw [hset, List.drop_eq_getElem_cons hlt, ← hcc]
      have e2 : s + owed (c :: cards.drop (i + 1)) = s + c.2.2.2 + owed (cards.drop (i + 1)) := by simp [owed]; omega
      rw [e2, ← this]
      congr 1
theorem ev_Accounts1 {n : Nat} (hn : 410 < n) {cards : List Card} (hc : ∀ c ∈ cards, CardOk c) (hnd : (cards.map (·.1)).Nodup) (hl : cards.length ≤ 400) :
    ev_book_Accounts n [0] cards = some ([owed cards], 0, 0) := by
  have hm : ev_book_isMoney n ([0] : List Int) = some true := by
    rw [ev_book_isMoney, bind_of (wi1_book (by omega))]; rfl
  have hcl : ev_slices_Clone_Lint_int n [0] = some [0] := by
    rw [ev_slices_Clone_Lint_int, chk_of (by decide)]; rfl
  rw [ev_book_Accounts, cond_if, if_neg (by simp), ev_book_Accounts_j0, cond_if, if_neg (by simp; omega), cond_if, if_neg (by simp), bind_of hm, ev_book_Accounts_j1, cond_if, if_neg (by simp), bind_of hcl]
  have := ev_Accounts_l (o := 0) (show 2 < n by omega) hc hnd hl cards.length n 0 0 [] (by omega) (by omega) (by omega) (by simp)
  simpa using this
end Go.Proofs.Ytmgcinejodpopaa.Sy
