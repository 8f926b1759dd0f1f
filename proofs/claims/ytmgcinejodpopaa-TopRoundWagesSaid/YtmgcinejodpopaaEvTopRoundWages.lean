/- The wages of rounds, on cards. -/
import Derived.Test.YtmgcinejodpopaaGTopRoundWages
import Derived.Test.YtmgcinejodpopaaEvL
set_option linter.unusedSimpArgs false
set_option linter.unusedVariables false
namespace Go.Proofs.Ytmgcinejodpopaa.Sy
open Go.RowKit
set_option maxRecDepth 100000

theorem pubRound_w : ev_top_pubRound 2200 = some true := by decide +kernel
theorem pubBook_w : ev_top_pubBook 2200 = some true := by decide +kernel
abbrev Crd := Int × Int × Int × Int
def minP : Nat → Int
  | 0 => 50
  | 1 => 70
  | _ => 130
def sumP : List Nat → Int
  | [] => 0
  | c :: l => minP c + sumP l
def crdP : Nat → List Nat → List Crd
  | _, [] => []
  | i, c :: l => (7 * (i : Int), (i : Int), 0, 2 * minP c) :: crdP (i + 1) l
/-- the cards in another order -/
def othW (l : List Crd) (t : Nat) : Nat → List Crd
  | 0 => []
  | i + 1 => (l.getD ((i + t) % l.length) (0, 0, 0, 0)) :: othW l t i
def seqs : Nat → List (List Nat)
  | 0 => [[]]
  | k + 1 => (seqs k).flatMap fun s => [0 :: s, 1 :: s, 2 :: s]
def accB (cs : List Nat) (t : Nat) : Bool := decide (ev_book_Accounts 2200 [11] (othW (crdP 0 cs) t cs.length ++ crdP 0 cs) = some ([11 + 2 * sumP cs], 0, 0))
theorem acc_all : ((List.range 6).all fun k => (seqs k).all fun cs => (List.range 5).all fun t => accB cs t) = true := by decide +kernel
theorem mem_seqs : ∀ cs : List Nat, (∀ c ∈ cs, c ≤ 2) → cs ∈ seqs cs.length
  | [], _ => by simp [seqs]
  | c :: l, h => by
    have h1 := mem_seqs l fun x hx => h x (by simp [hx])
    have hc := h c (by simp)
    rw [List.length_cons, seqs, List.mem_flatMap]
    refine ⟨l, h1, ?_⟩
    have : c = 0 ∨ c = 1 ∨ c = 2 := by omega
    rcases this with rfl | rfl | rfl <;> simp
theorem acc_of {cs : List Nat} (h : ∀ c ∈ cs, c ≤ 2) (hl : cs.length ≤ 5) {t : Nat} (ht : t < 5) : ev_book_Accounts 2200 [11] (othW (crdP 0 cs) t cs.length ++ crdP 0 cs) = some ([11 + 2 * sumP cs], 0, 0) := by
  have h1 := List.all_eq_true.1 acc_all cs.length (List.mem_range.2 (by omega))
  have h2 := List.all_eq_true.1 h1 cs (mem_seqs cs h)
  have h3 := List.all_eq_true.1 h2 t (List.mem_range.2 ht)
  exact of_decide_eq_true h3
theorem crdP_len : ∀ (cs : List Nat) (i : Nat), (crdP i cs).length = cs.length
  | [], _ => rfl
  | c :: l, i => by rw [crdP, List.length_cons, crdP_len l, List.length_cons]
theorem crdP_snoc : ∀ (cs : List Nat) (i c : Nat), crdP i (cs ++ [c]) = crdP i cs ++ [(7 * ((i + cs.length : Nat) : Int), ((i + cs.length : Nat) : Int), 0, 2 * minP c)]
  | [], i, c => rfl
  | x :: l, i, c => by
    rw [List.cons_append, crdP, crdP, crdP_snoc l (i + 1) c, List.cons_append, List.length_cons, show i + 1 + l.length = i + (l.length + 1) by omega]
theorem sumP_snoc : ∀ (cs : List Nat) (c : Nat), sumP (cs ++ [c]) = sumP cs + minP c
  | [], c => by simp [sumP]
  | x :: l, c => by rw [List.cons_append, sumP, sumP, sumP_snoc l c, Int.add_assoc]
theorem sumP_range : ∀ cs : List Nat, 0 ≤ sumP cs ∧ sumP cs ≤ 130 * cs.length
  | [] => by simp [sumP]
  | c :: l => by
    have h1 := sumP_range l
    have h2 : 50 ≤ minP c ∧ minP c ≤ 130 := by unfold minP; split <;> decide
    rw [sumP, List.length_cons]
    omega
/-- what comes at the end -/
def tailE (x : Option (List Int × Int × Int)) (i3 : Int) : Option Bool := x.bind fun r17 => cond (r17.2.2 == 0) (cond ((r17.1.length : Int) == 1) (idx r17.1 0 fun x18 => chk (in64 ((2 : Int) * i3)) <| chk (in64 ((11 : Int) + ((2 : Int) * i3))) <| cond (x18 == ((11 : Int) + ((2 : Int) * i3))) ((ev_top_pubRound 2200).bind fun r19 => cond r19 ((ev_top_pubBook 2200).bind fun r20 => some r20) (some false)) (some false)) (some false)) (some false)
theorem tailE_ok {cs : List Nat} (hl : cs.length ≤ 5) : tailE (some ([11 + 2 * sumP cs], 0, 0)) (sumP cs) = some true := by
  have h := sumP_range cs
  unfold tailE
  rw [bind_of rfl, cond_if, if_pos (by rfl), cond_if, if_pos (by rfl), idx_of (x := 11 + 2 * sumP cs) (by decide) rfl, chk_of (in64_of (by omega)), chk_of (in64_of (by omega)), cond_if, if_pos (by simp), bind_of pubRound_w, cond_if, if_pos rfl, bind_of pubBook_w]
theorem loop_w {cs : List Nat} (h : ∀ c ∈ cs, c ≤ 2) (hl : cs.length ≤ 5) {turn : Int} (ht : 0 ≤ turn ∧ turn ≤ 255) {F : Nat → Int → List Crd → List Crd → Option Bool}
    (hF : ∀ m i acc, F (m + 1) i (crdP 0 cs) acc = cond (decide (i < ((crdP 0 cs).length : Int))) (chk (in64 turn) <| chk (in64 (i + turn)) <| chk (((crdP 0 cs).length : Int) != 0) <| idx (crdP 0 cs) (Int.tmod (i + turn) ((crdP 0 cs).length : Int)) fun x16 => chk (room 32 (([(x16.1, x16.2.1, x16.2.2.1, x16.2.2.2)] : List (Int × Int × Int × Int)).length + acc.length)) <| chk (in64 (i + 1)) <| F m (i + 1) (crdP 0 cs) (([(x16.1, x16.2.1, x16.2.2.1, x16.2.2.2)] : List (Int × Int × Int × Int)) ++ acc)) (chk (room 32 (acc.length + (crdP 0 cs).length)) <| tailE (ev_book_Accounts 2200 [11] (acc ++ crdP 0 cs)) (sumP cs))) :
    F 2200 0 (crdP 0 cs) [] = some true := by
  have hlen := crdP_len cs 0
  obtain ⟨t, htt, ht5⟩ : ∃ t : Nat, t < 5 ∧ ∀ i : Nat, 0 < cs.length → (i + turn.toNat) % cs.length = (i + t) % cs.length := by
    by_cases h0 : 0 < cs.length
    · have := Nat.mod_lt turn.toNat h0
      exact ⟨turn.toNat % cs.length, by omega, fun i _ => by rw [Nat.add_mod_mod]⟩
    · exact ⟨0, by omega, fun i h => absurd h h0⟩
  have key : ∀ (d m i : Nat), i + d = cs.length → d < m → F m (i : Int) (crdP 0 cs) (othW (crdP 0 cs) t i) = some true := by
    intro d
    induction d with
    | zero =>
      intro m i hi hm
      obtain ⟨m, rfl⟩ : ∃ m', m = m' + 1 := ⟨m - 1, by omega⟩
      have : i = cs.length := by omega
      subst this
      have hol : ∀ k, (othW (crdP 0 cs) t k).length = k := fun k => by
        induction k with
        | zero => rfl
        | succ k ih => rw [othW, List.length_cons, ih]
      rw [hF, cond_if, if_neg (by simp; omega), chk_of (room_iff.2 (by rw [hol]; omega)), acc_of h hl htt]
      exact tailE_ok hl
    | succ d ih =>
      intro m i hi hm
      obtain ⟨m, rfl⟩ : ∃ m', m = m' + 1 := ⟨m - 1, by omega⟩
      have h0 : 0 < cs.length := by omega
      have hlt := Nat.mod_lt (i + t) h0
      have hol : ∀ k, (othW (crdP 0 cs) t k).length = k := fun k => by
        induction k with
        | zero => rfl
        | succ k ih => rw [othW, List.length_cons, ih]
      have e : Int.tmod ((i : Int) + turn) ((crdP 0 cs).length : Int) = (((i + t) % cs.length : Nat) : Int) := by
        rw [hlen, Int.tmod_eq_emod_of_nonneg (by omega), ← ht5 i h0]
        have : (i : Int) + turn = ((i + turn.toNat : Nat) : Int) := by omega
        rw [this]; rfl
      have hg : (crdP 0 cs)[(i + t) % cs.length]? = some ((crdP 0 cs).getD ((i + t) % (crdP 0 cs).length) (0, 0, 0, 0)) := by
        rw [hlen, List.getD_eq_getElem?_getD, List.getElem?_eq_getElem (by omega)]; rfl
      rw [hF, cond_if, if_pos (decide_eq_true (by omega)), chk_of (in64_of (by omega)), chk_of (in64_of (by omega)), chk_of (by simp only [bne_iff_ne, ne_eq]; omega), e, idx_nat hg, chk_of (room_iff.2 (by rw [hol]; simp; omega)), chk_of (in64_of (by omega))]
      exact ih m (i + 1) (by omega) (by omega)
  exact key cs.length 2200 0 (by omega) (by omega)
def codeP (z : Int) : Nat := if Int.tmod z 3 = 0 then 2 else if Int.tmod z 2 = 0 then 0 else 1
def listP : Nat → List Int
  | 0 => [0]
  | 1 => [1]
  | _ => [0, 1]
def stepsP : Nat → List Int
  | 0 => [0]
  | 1 => [1]
  | _ => [0, -1, 1]
theorem best_w (c : Nat) (hc : c ≤ 2) : (ev_top_pubTown 2200).bind (fun r9 => (ev_round_Best 2200 r9.1 r9.2.1 r9.2.2.1 r9.2.2.2.1 r9.2.2.2.2 0 (listP c))) = some (stepsP c, minP c, 0) := by
  have : c = 0 ∨ c = 1 ∨ c = 2 := by omega
  rcases this with rfl | rfl | rfl <;> decide +kernel
theorem walk_w (c : Nat) (hc : c ≤ 2) : (ev_top_pubTown 2200).bind (fun r11 => (ev_round_Walk 2200 r11.1 r11.2.1 r11.2.2.1 r11.2.2.2.1 r11.2.2.2.2 0 (([] : List Int) ++ stepsP c))) = some (minP c, 2 * minP c, 0, 0) := by
  have : c = 0 ∨ c = 1 ∨ c = 2 := by omega
  rcases this with rfl | rfl | rfl <;> decide +kernel
theorem bind_bind {α β γ : Type} {e : Option α} {f : α → Option β} {k : β → Option γ} {y : β} (h : e.bind f = some y) : (e.bind fun x => (f x).bind k) = k y := by
  cases e with
  | none => cases h
  | some x => rw [Option.bind_some] at h ⊢; rw [h]; rfl
theorem topRoundWages_evx {towers1 : List Int} {turn2 : Int} (h0 : (towers1.length ≤ maxLen ∧ ∀ el5 ∈ towers1, (Lit.int .u8 el5).wf = true)) (h1 : (Lit.int .u8 turn2).wf = true) :
    ∃ n, ev_top_TopRoundWages n towers1 turn2 = some true := by
  refine ⟨2200, ?_⟩
  have ht := wf8.1 h1
  have end3 : ∀ cs : List Nat, (∀ c ∈ cs, c ≤ 2) → cs.length ≤ 5 → ev_top_TopRoundWages_l3 2200 turn2 (sumP cs) 2200 0 (crdP 0 cs) [] = some true := fun cs hc hl =>
    loop_w hc hl ht (F := fun m i l acc => ev_top_TopRoundWages_l3 2200 turn2 (sumP cs) m i l acc) fun m i acc => rfl
  have end4 : ∀ cs : List Nat, (∀ c ∈ cs, c ≤ 2) → cs.length ≤ 5 → ev_top_TopRoundWages_l4 2200 turn2 (sumP cs) 2200 0 (crdP 0 cs) [] = some true := fun cs hc hl =>
    loop_w hc hl ht (F := fun m i l acc => ev_top_TopRoundWages_l4 2200 turn2 (sumP cs) m i l acc) fun m i acc => rfl
  have key : ∀ (d m : Nat) (cs : List Nat), cs.length + d = 5 → d < m → (∀ c ∈ cs, c ≤ 2) → ev_top_TopRoundWages_l0 2200 turn2 m (sumP cs) (cs.length : Int) towers1 (crdP 0 cs) = some true := by
    intro d
    induction d with
    | zero =>
      intro m cs hl hm hc
      obtain ⟨m, rfl⟩ : ∃ m', m = m' + 1 := ⟨m - 1, by omega⟩
      rw [ev_top_TopRoundWages_l0, cond_if, cond_if]
      split
      · rw [if_neg (by simp; omega)]; exact end3 cs hc (by omega)
      · exact end4 cs hc (by omega)
    | succ d ih =>
      intro m cs hl hm hc
      obtain ⟨m, rfl⟩ : ∃ m', m = m' + 1 := ⟨m - 1, by omega⟩
      rw [ev_top_TopRoundWages_l0, cond_if, cond_if]
      split
      · rename_i hlt
        have hlt : cs.length < towers1.length := by simpa using hlt
        have hz := wf8.1 (h0.2 _ (List.getElem_mem hlt))
        have hsr := sumP_range cs
        rw [if_pos (decide_eq_true (by omega)), ev_top_TopRoundWages_j1, idx_nat (List.getElem?_eq_getElem hlt), chk_of (in64_of (by omega)), cond_if]
        have j2 : ∀ c : Nat, c ≤ 2 → ev_top_TopRoundWages_j2 2200 (sumP cs) (cs.length : Int) (crdP 0 cs) towers1 (fun i3q i4q l5q l6q => ev_top_TopRoundWages_l0 2200 turn2 m i3q i4q l5q l6q) (listP c) = some true := by
          intro c hc2
          have hmc : 50 ≤ minP c ∧ minP c ≤ 130 := by unfold minP; split <;> decide
          have hnext := ih m (cs ++ [c]) (by rw [List.length_append]; simp; omega) (by omega) (fun x hx => by
            rcases List.mem_append.1 hx with hx | hx
            · exact hc x hx
            · rw [List.mem_singleton] at hx; omega)
          rw [crdP_snoc, sumP_snoc, List.length_append, Nat.zero_add] at hnext
          have hsl : (stepsP c).length ≤ 3 := by unfold stepsP; split <;> decide
          rw [ev_top_TopRoundWages_j2, bind_bind (best_w c hc2)]
          dsimp only
          have hb := walk_w c hc2
          cases hT : ev_top_pubTown 2200 with
          | none => rw [hT] at hb; cases hb
          | some r11 =>
            rw [hT, Option.bind_some] at hb
            rw [Option.bind_some, chk_of (room_iff.2 (by simp; omega)), bind_of hb]
            dsimp only
            rw [cond_if, if_neg (by decide), cond_if, if_neg (by decide), cond_if, if_neg (by simp), cond_if, if_neg (by simp; omega), chk_of (in64_of (by omega)), cond_if, if_neg (by simp), chk_of (in64_of (by omega)), chk_of (in64_of (by omega)), chk_of (room_iff.2 (by rw [crdP_len]; simp; omega)), chk_of (in64_of (by omega))]
            exact hnext
        by_cases h3 : Int.tmod towers1[cs.length] 3 = 0
        · rw [if_pos (by rw [h3]; rfl)]; exact j2 2 (by decide)
        · rw [if_neg (by rw [beq_iff_eq]; exact h3)]
          have h2 : Int.tmod towers1[cs.length] 2 = 0 ∨ Int.tmod towers1[cs.length] 2 = 1 := by
            rw [Int.tmod_eq_emod_of_nonneg hz.1]; omega
          rcases h2 with h2 | h2 <;> rw [h2]
          · exact j2 0 (by decide)
          · exact j2 1 (by decide)
      · exact end4 cs hc (by omega)
  exact key 5 2200 [] (by decide) (by decide) (by simp)
end Go.Proofs.Ytmgcinejodpopaa.Sy
