/- The small logic of symbolic states: arrays at open places, prefixes of a row that is the call's own. -/
import Derived.Test.YtohjpfkcahlfkaaGreatPbSymY
set_option linter.unusedSimpArgs false
set_option linter.unusedVariables false
namespace Go.Proofs.YtohjpfkcahlfkaaGreat.Sy
open Go.RowKit
def ins (x : Int) : List Int → List Int
  | [] => [x]
  | y :: l => if x ≤ y then x :: y :: l else y :: ins x l
def srt : List Int → List Int
  | [] => []
  | x :: l => ins x (srt l)
theorem ins_perm (x : Int) : ∀ l, (ins x l).Perm (x :: l)
  | [] => .refl _
  | y :: l => by
    unfold ins; split
    · exact .refl _
    · exact ((ins_perm x l).cons y).trans (.swap x y l)
theorem srt_perm : ∀ l, (srt l).Perm l
  | [] => .refl _
  | x :: l => (ins_perm x _).trans ((srt_perm l).cons x)
theorem ins_sorted (x : Int) : ∀ l : List Int, l.Pairwise (· ≤ ·) → (ins x l).Pairwise (· ≤ ·)
  | [], _ => by simp [ins]
  | y :: l, h => by
    unfold ins
    have h' := List.pairwise_cons.1 h
    split
    · rename_i hxy
      refine List.pairwise_cons.2 ⟨fun z hz => ?_, h⟩
      rcases List.mem_cons.1 hz with rfl | hz
      · exact hxy
      · exact Int.le_trans hxy (h'.1 z hz)
    · rename_i hxy
      refine List.pairwise_cons.2 ⟨fun z hz => ?_, ins_sorted x l h'.2⟩
      rcases List.mem_cons.1 ((ins_perm x l).mem_iff.1 hz) with rfl | hz
      · omega
      · exact h'.1 z hz
theorem srt_sorted : ∀ l : List Int, (srt l).Pairwise (· ≤ ·)
  | [] => .nil
  | x :: l => ins_sorted x _ (srt_sorted l)
theorem sorted_eq : ∀ {a b : List Int}, a.Perm b → a.Pairwise (· ≤ ·) → b.Pairwise (· ≤ ·) → a = b
  | [], b, p, _, _ => p.nil_eq
  | x :: a, [], p, _, _ => nomatch p.length_eq
  | x :: a, y :: b, p, ha, hb => by
    have h1 := List.pairwise_cons.1 ha
    have h2 := List.pairwise_cons.1 hb
    have e : x = y := by
      have hx : x ∈ y :: b := p.mem_iff.1 (by simp)
      have hy : y ∈ x :: a := p.mem_iff.2 (by simp)
      have i1 : y ≤ x := by
        rcases List.mem_cons.1 hx with e | h
        · omega
        · exact h2.1 x h
      have i2 : x ≤ y := by
        rcases List.mem_cons.1 hy with e | h
        · omega
        · exact h1.1 y h
      omega
    subst e
    rw [sorted_eq ((List.perm_cons x).1 p) h1.2 h2.2]
theorem sortL_srt (zs : List Int) : sortL zs = srt zs := by
  refine sorted_eq ((List.mergeSort_perm zs _).trans (srt_perm zs).symm) ?_ (srt_sorted zs)
  have h := List.pairwise_mergeSort (le := fun x y : Int => decide (x ≤ y)) (fun a b c h1 h2 => by simp at *; omega) (fun a b => by simp; omega) zs
  exact h.imp fun h => of_decide_eq_true h
theorem ft_sortS {P : Program} {ρ : Shelf.Ren} (L : Lays.n189 P ρ) {E : TypeId} {zs : List Int} (hroom : room 8 zs.length = true) :
    FT P (ρ.f 189) [.ref 0] [.row 0 E 1 (zs.map fun z => [D.v (.int .i64 z)])] [] (.tup []) [.row 0 E 1 ((srt zs).map fun z => [D.v (.int .i64 z)])] := by
  rw [← sortL_srt]; exact ft_sortI L hroom
section
variable {P : Program} {c : Ctx} {sz : Fm} {Q : Exit → Act → World → Prop} {t : List Item} {s : List (Nat × AV)} {V : List NEnt} {ops : Array Oper} {rest : List Oper} {o : Oper} {ρ : Operand → Option AV}
theorem TL.pin (g n : Nat) (hf : (!hasS g s && !hasV g V) = true) (hg : Nat.beq g n = false) (h : ∀ u, TL P c sz Q ops rest t s (.pin g n u :: V)) : TL P c sz Q ops rest t s V := by
  simp only [Bool.and_eq_true, Bool.not_eq_true'] at hf
  intro env tm W O R hfr hst
  have hgn : g ≠ n := fun e => by subst e; rw [Nat.beq_refl] at hg; cases hg
  have hst' := hst.addRo (x := .pin g n (env n)) (v := .bool false) hf.2 fun O => by
    simp only [NEnt.holds, NEnt.name, setEnv_other hgn]
  exact h (env n) _ tm W _ R (hfr.congr fun m hm => (setEnv_other fun e => by subst e; simp only [NEnt.name] at hm; rw [hf.1] at hm; cases hm).symm) hst'
end
section
variable {X : Type} {T' n : Nat} {enc : X → List Value} {xs : List X}
variable {P : Program} {s : List (Nat × AV)} {o : Oper} {ρ : Operand → Option AV}
variable {c : Ctx} {sz : Fm} {Q : Exit → Act → World → Prop} {t : List Item} {V : List NEnt} {ops : Array Oper} {rest : List Oper}
theorem TSpec.froz {P : Program} {o : Oper} {ρ : Operand → Option AV} {take need : List NEnt} {v : AV} {news : List NEnt} {x : NEnt} (j : Nat) (hj : news[j]? = some x) (h : TSpec P o ρ take need v news) : TSpec P o ρ take need v (news.set j x.toRo) := by
  intro ev c env V W O R he hst ht hk hn
  have hnm := set_names (y := x.toRo) hj (NEnt.toRo_name x)
  have hmem : ∀ y ∈ news, ∃ z ∈ news.set j x.toRo, z.name = y.name := fun y hy => by
    have : y.name ∈ (news.set j x.toRo).map NEnt.name := by rw [hnm]; exact List.mem_map.2 ⟨y, hy, rfl⟩
    obtain ⟨z, hz, e⟩ := List.mem_map.1 this
    exact ⟨z, hz, e⟩
  refine (h ev c env V W O R he hst ht hk (fun y hy => by obtain ⟨z, hz, e⟩ := hmem y hy; rw [← e]; exact hn z hz)).mono ?_
  rintro u W' ⟨env', O', R', he', hu, hst'⟩
  have hlt := (List.getElem?_eq_some_iff.1 hj).1
  have hf := hst'.freeze j (x := x) (by rw [List.getElem?_append_left hlt]; exact hj)
  rw [List.set_append_left _ _ hlt] at hf
  refine ⟨env', _, _, fun n hn2 => he' n fun y hy hyt e => ?_, hu, hf⟩
  obtain ⟨z, hz, e2⟩ := hmem y hy
  exact hn2 z hz (by rw [e2]; exact hyt) (by rw [e2]; exact e)
theorem nilCellL (k n E size b : Nat) (els : List (List D)) (cells : List AV) {T : TypeId} (he : els = []) (hk : V[k]? = some (.blk b (AV.nlL n cells) T)) (hf : freshN [.row n E size els] s V = true)
    (h : TL P c sz Q ops rest t s (.row n E size els :: V.set k (.blk b cells T))) : TL P c sz Q ops rest t s V := (nilCellR k n E size b els cells he hk hf).2 h
end
end Go.Proofs.YtohjpfkcahlfkaaGreat.Sy
