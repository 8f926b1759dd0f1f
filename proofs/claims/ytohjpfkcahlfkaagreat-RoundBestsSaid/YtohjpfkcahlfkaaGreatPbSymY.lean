/- slices.Sort at []int: the shelf's contract, as a contract that takes a row and gives it back -/
import Derived.Test.YtohjpfkcahlfkaaGreatPbSymU
import Derived.Test.YtohjpfkcahlfkaaGreatPbSymX
import Derived.Shelf.Sort.Plain
import Derived.Shelf.Slices.In.SortNone
set_option linter.unusedSimpArgs false
set_option linter.unusedVariables false
namespace Go.Proofs.YtohjpfkcahlfkaaGreat.Sy
open Go.RowKit
def sortL (zs : List Int) : List Int := zs.mergeSort fun x y => decide (x ≤ y)
theorem sortL_len (zs : List Int) : (sortL zs).length = zs.length := List.length_mergeSort zs
theorem ft_sortI {P : Program} {ρ : Shelf.Ren} (L : Lays.n189 P ρ) {E : TypeId} {zs : List Int} (hroom : room 8 zs.length = true) :
    FT P (ρ.f 189) [.ref 0] [.row 0 E 1 (zs.map fun z => [D.v (.int .i64 z)])] [] (.tup []) [.row 0 E 1 ((sortL zs).map fun z => [D.v (.int .i64 z)])] := by
  intro env w0 M O R0 hst _
  obtain ⟨hs, cells, hown, hob, hcd⟩ := hst.holds _ (List.mem_singleton.2 rfl)
  have hfl : ∀ ys : List Int, (ys.map fun z => [D.v (.int .i64 z)]).flatten = ys.map fun z => D.v (.int .i64 z) := by
    intro ys; induction ys with
    | nil => rfl
    | cons y ys ih => simp [ih]
  have hcl : cells.length = zs.length := by have := hown.1; simpa using this
  have hcells : cells = zs.map (Value.int .i64) := by
    apply List.ext_getElem?
    intro k
    rw [List.getElem?_map]
    by_cases hk : k < zs.length
    · obtain ⟨u, h1, h2, _⟩ := hcd k (D.v (.int .i64 zs[k])) (by rw [hfl, List.getElem?_map, List.getElem?_eq_getElem hk]; rfl)
      rw [h1, List.getElem?_eq_getElem hk]
      exact congrArg some h2
    · rw [List.getElem?_eq_none (by omega), List.getElem?_eq_none (by omega)]; rfl
  subst hcells
  have hmax : zs.length < 4611686018427387904 := by
    simp only [room, Bool.and_eq_true, decide_eq_true_eq] at hroom
    have := hroom.1; have := hroom.2
    first | omega | (simp [maxLen] at *; omega)
  have hrest : ∀ (W' : World), Keep (fun b => O 0 b) w0 W' → W'.ownsRow 0 E 1 (env 0) (sortL zs).length ((sortL zs).map (Value.int .i64)) →
      PostT ⟨w0, M, R0⟩ env [0] (.tup []) [.row 0 E 1 ((sortL zs).map fun z => [D.v (.int .i64 z)])] (.returned (.tuple #[])) W' := by
    intro W' hk how
    have hst' := St.write (y := .row 0 E 1 ((sortL zs).map fun z => [D.v (.int .i64 z)])) hst 0 rfl hk rfl (by
      refine ⟨by simp, (sortL zs).map (Value.int .i64), ?_, hob, ?_⟩
      · simpa using how
      · intro k d hd
        rw [hfl, List.getElem?_map] at hd
        obtain ⟨z, hz, rfl⟩ := Option.map_eq_some_iff.1 hd
        exact ⟨.int .i64 z, by rw [List.getElem?_map, hz]; rfl, rfl, rfl⟩)
    exact ⟨_, rfl, env, O, R0, fun _ _ => rfl, rfl, hst'⟩
  rcases hown with ⟨hlen, ⟨hv, hn⟩ | ⟨g, cap, cur, hv, hb, hg, hnc, hcm, hcs, htake⟩⟩
  · have hz : zs = [] := by simpa using hn
    have hv' : env 0 = .slice none 0 0 := hv
    have ha : (AV.denL env [AV.ref 0]).toArray = #[.slice none 0 0] := by simp [AV.denL, AV.den, hv', oneOf]
    rw [ha]
    refine (Any.slices_Sort_int_none L none 0 w0).mono ?_
    rintro e w' ⟨rfl, rfl⟩
    subst hz
    refine hrest _ (Keep.refl _ _) ?_
    rw [hv']
    have : sortL [] = [] := by simp [sortL]
    rw [this]
    exact ⟨rfl, .inl ⟨rfl, rfl⟩⟩
  · have hv' : env 0 = .slice (some ⟨g, 0, none⟩) zs.length cap := by simpa [NEnt.name] using hv
    have ha : (AV.denL env [AV.ref 0]).toArray = #[.slice (some ⟨g, 0, none⟩) zs.length cap] := by simp [AV.denL, AV.den, hv', oneOf]
    have hnc' : zs.length ≤ cap := by simpa using hnc
    have hcs' : cur.size = cap := by simpa using hcs
    rw [ha]
    have hOg : O 0 g := hob g (by rw [hv']; rfl)
    have hgl : g < w0.heap.size := (Array.getElem?_eq_some_iff.1 hg).1
    refine (Any.slices_Sort_int L g 0 cap zs w0 ?_ hgl hmax).mono ?_
    · intro j hj
      have hj' : j < zs.length := by simpa using hj
      have hjc : j < cur.size := by omega
      have hcell : cur[j]? = some (.int .i64 zs[j]) := by
        have h1 : (cur.toList.take zs.length)[j]? = some (Value.int .i64 zs[j]) := by
          have h2 := htake
          simp only [List.length_map, Nat.mul_one] at h2
          rw [h2, List.getElem?_map, List.getElem?_eq_getElem hj']; rfl
        rw [List.getElem?_take, if_pos hj', Array.getElem?_toList] at h1
        exact h1
      refine ⟨?_, ?_⟩
      · simp [World.cell?, hg, hcell, hj', getElem!_def]
      · simp [World.frozen?, hg]
    · rintro e w' ⟨rfl, q, os, rfl⟩
      refine hrest _ ?_ ?_
      · refine ⟨rfl, rfl, rfl, by simp [Sort.grow, Sort.putRow, Sort.mapBlock, Sort.ahead], fun k hk hne => ?_⟩
        have hne' : g ≠ k := fun e => hne (by rw [← e]; exact hOg)
        have hk' : k < w0.heap.size := hk
        have hk2 : k < (w0.heap.modify g (Sort.onCells (Sort.putCells (Value.int .i64) 0 (zs.mergeSort fun x y => decide (x ≤ y)).toArray))).size := by rw [Array.size_modify]; exact hk'
        show ((w0.heap.modify g (Sort.onCells (Sort.putCells (Value.int .i64) 0 (zs.mergeSort fun x y => decide (x ≤ y)).toArray))) ++ os)[k]? = w0.heap[k]?
        rw [Array.getElem?_append_left hk2, Array.getElem?_modify, if_neg hne']
      · rw [hv', sortL_len]
        refine ⟨by simp [sortL_len], .inr ⟨g, cap, Sort.putCells (Value.int .i64) 0 (sortL zs).toArray cur, rfl, Nat.zero_le _, ?_, hnc', hcm, ?_, ?_⟩⟩
        · have hk2 : g < (w0.heap.modify g (Sort.onCells (Sort.putCells (Value.int .i64) 0 (zs.mergeSort fun x y => decide (x ≤ y)).toArray))).size := by rw [Array.size_modify]; exact hgl
          show ((w0.heap.modify g (Sort.onCells (Sort.putCells (Value.int .i64) 0 (zs.mergeSort fun x y => decide (x ≤ y)).toArray))) ++ os)[g]? = _
          rw [Array.getElem?_append_left hk2, Array.getElem?_modify, if_pos rfl, hg]
          rfl
        · simp [Sort.putCells, hcs']
        · have h1 := take_putCells (enc := Value.int .i64) (ys := sortL zs) (zs := zs) (cur := cur) (by rw [sortL_len]; exact Nat.le_refl _) (by omega)
          rw [sortL_len, Nat.sub_self, List.replicate_zero, List.append_nil] at h1
          rw [Nat.mul_one]
          exact h1
end Go.Proofs.YtohjpfkcahlfkaaGreat.Sy
