/- slices.Compact at []int: the shelf's contract, as a contract that takes a row -/
import Derived.Test.YtohjpfkcahlfkaaGreatPbSymT
import Derived.Shelf.Slices.CompactI
set_option linter.unusedSimpArgs false
set_option linter.unusedVariables false
namespace Go.Proofs.YtohjpfkcahlfkaaGreat.Sy
open Go.RowKit
theorem compact_len (zs : List Int) : (Lib.compact zs).length ≤ zs.length := by
  simp only [Lib.compact, Lib.compactUpTo, List.length_map]
  exact Nat.le_trans (List.length_filter_le _ _) (by simp)
theorem take_putCells {enc : Int → Value} {ys zs : List Int} {cur : Array Value} (hn : ys.length ≤ zs.length) (hc : zs.length ≤ cur.size) :
    (Sort.putCells enc 0 (ys ++ List.replicate (zs.length - ys.length) 0).toArray cur).toList.take ys.length = ys.map enc := by
  apply List.ext_getElem?
  intro k
  rw [List.getElem?_take]
  split
  · rename_i hk
    have h1 : k < cur.size := by omega
    rw [Array.getElem?_toList, Sort.putCells, Array.getElem?_mapIdx, Array.getElem?_eq_getElem h1]
    simp only [Option.map_some, Nat.zero_le, Nat.zero_add, Nat.sub_zero, true_and, List.size_toArray, List.length_append, List.length_replicate]
    rw [if_pos (by omega)]
    simp [List.getElem?_append_left hk, hk, getElem!_def]
  · rename_i hk
    rw [List.getElem?_eq_none (by simp; omega)]
theorem ft_compactI {P : Program} {ρ : Shelf.Ren} (L : Lays2.n20 P ρ) {E : TypeId} (r : Nat) (hr : Nat.beq r 0 = false) {zs : List Int} (hroom : room 8 zs.length = true) :
    FT P (ρ.f 20) [.ref 0] [.row 0 E 1 (zs.map fun z => [D.v (.int .i64 z)])] [] (.ref r) [.row r E 1 ((Lib.compact zs).map fun z => [D.v (.int .i64 z)])] := by
  intro env w0 M O R0 hst _
  have hr0 : r ≠ 0 := fun e => by subst e; cases hr
  obtain ⟨hs, cells, hown, hob, hcd⟩ := hst.holds _ (List.mem_singleton.2 rfl)
  have hfl : ∀ ys : List Int, (ys.map fun z => [D.v (.int .i64 z)]).flatten = ys.map fun z => D.v (.int .i64 z) := by
    intro ys; induction ys with
    | nil => rfl
    | cons y ys ih => simp [ih]
  have hcl : cells.length = zs.length := by have := hown.1; simpa using this
  have hcells : cells = zs.map (Value.int .i64) := by
    apply List.ext_getElem?
    intro k
    rw [List.getElem?_map]
    by_cases hk : k < zs.length
    · obtain ⟨u, h1, h2, _⟩ := hcd k (D.v (.int .i64 zs[k])) (by rw [hfl, List.getElem?_map, List.getElem?_eq_getElem hk]; rfl)
      rw [h1, List.getElem?_eq_getElem hk]
      exact congrArg some h2
    · rw [List.getElem?_eq_none (by omega), List.getElem?_eq_none (by omega)]; rfl
  subst hcells
  have hmax : zs.length ≤ 9223372036854775807 := by
    simp only [room, Bool.and_eq_true, decide_eq_true_eq] at hroom
    have := hroom.1; have := hroom.2
    first | omega | (simp [maxLen] at *; omega)
  have hrest : ∀ (v : Value) (W' : World) (Or : Nat → Prop), Keep (fun b => O 0 b) w0 W' → (∀ b, Or b → (O 0 b ∨ w0.heap.size ≤ b) ∧ b < W'.heap.size) → v = oneOf v → W'.ownsRow 0 E 1 v (Lib.compact zs).length ((Lib.compact zs).map (Value.int .i64)) → (∀ b, v.ownBlock = some b → Or b) →
      PostT ⟨w0, M, R0⟩ env [0] (.ref r) [.row r E 1 ((Lib.compact zs).map fun z => [D.v (.int .i64 z)])] (.returned v) W' := by
    intro v W' Or hk hOr hone how hob'
    obtain ⟨O', hst'⟩ := St.replace (y := .row r E 1 ((Lib.compact zs).map fun z => [D.v (.int .i64 z)])) (v := v) hst 0 rfl hk hOr (by
        simp [hasV, NEnt.has, NEnt.name, Ne.symm hr0]) (by
      refine ⟨by simp, (Lib.compact zs).map (Value.int .i64), ?_, ?_, ?_⟩
      · simpa [setEnv_same, NEnt.name] using how
      · simpa [setEnv_same, NEnt.name] using hob'
      · intro k d hd
        rw [hfl, List.getElem?_map] at hd
        obtain ⟨z, hz, rfl⟩ := Option.map_eq_some_iff.1 hd
        exact ⟨.int .i64 z, by rw [List.getElem?_map, hz]; rfl, rfl, rfl⟩)
    refine ⟨v, rfl, _, O', _, fun n hn => ?_, ?_, hst'⟩
    · exact setEnv_other (hn _ (List.mem_singleton.2 rfl) (by simp [NEnt.name, hr0]))
    · simp only [AV.den, NEnt.name, setEnv_same]; exact hone
  rcases hown with ⟨hlen, ⟨hv, hn⟩ | ⟨g, cap, cur, hv, hb, hg, hnc, hcm, hcs, htake⟩⟩
  · have hz : zs = [] := by simpa using hn
    have hv' : env 0 = .slice none 0 0 := hv
    have ha : (AV.denL env [AV.ref 0]).toArray = #[.slice none 0 0] := by simp [AV.denL, AV.den, hv', oneOf]
    rw [ha]
    refine (Any.slices_Compact_int_empty L none 0 w0).mono ?_
    rintro e w' ⟨rfl, rfl⟩
    subst hz
    exact hrest _ _ (fun _ => False) (Keep.refl _ _) (fun _ h => h.elim) rfl ⟨rfl, .inl ⟨rfl, rfl⟩⟩ (fun b h => by cases h)
  · have hv' : env 0 = .slice (some ⟨g, 0, none⟩) zs.length cap := by simpa [NEnt.name] using hv
    have ha : (AV.denL env [AV.ref 0]).toArray = #[.slice (some ⟨g, 0, none⟩) zs.length cap] := by simp [AV.denL, AV.den, hv', oneOf]
    have hnc' : zs.length ≤ cap := by simpa using hnc
    have hcs' : cur.size = cap := by simpa using hcs
    rw [ha]
    have hOg : O 0 g := hob g (by rw [hv']; rfl)
    refine (Any.slices_Compact_int L g 0 cap zs w0 ?_ hmax hnc').mono ?_
    · intro j hj
      have hj' : j < zs.length := by simpa using hj
      have hjc : j < cur.size := by omega
      have hcell : cur[j]? = some (.int .i64 zs[j]) := by
        have h1 : (cur.toList.take zs.length)[j]? = some (Value.int .i64 zs[j]) := by
          have h2 := htake
          simp only [List.length_map, Nat.mul_one] at h2
          rw [h2, List.getElem?_map, List.getElem?_eq_getElem hj']; rfl
        rw [List.getElem?_take, if_pos hj', Array.getElem?_toList] at h1
        exact h1
      refine ⟨?_, ?_⟩
      · simp [World.cell?, hg, hcell, hj', getElem!_def]
      · simp [World.frozen?, hg]
    · rintro e w' ⟨rfl, q, rfl⟩
      refine hrest _ _ (fun b => b = g) ?_ ?_ rfl ?_ ?_
      · refine ⟨rfl, rfl, rfl, by simp [Sort.putRow, Sort.mapBlock, Sort.ahead], fun k hk hne => ?_⟩
        have : g ≠ k := fun e => hne (by rw [← e]; exact hOg)
        simp [Sort.putRow, Sort.mapBlock, Sort.ahead, Array.getElem?_modify, this]
      · rintro b rfl
        exact ⟨.inl hOg, by
          have := (Array.getElem?_eq_some_iff.1 hg).1
          simpa [Sort.putRow, Sort.mapBlock, Sort.ahead] using this⟩
      · refine ⟨by simp, .inr ⟨g, cap, Sort.putCells (Value.int .i64) 0 (Lib.compact zs ++ List.replicate (zs.length - (Lib.compact zs).length) 0).toArray cur, rfl, Nat.zero_le _, ?_, Nat.le_trans (compact_len zs) hnc', hcm, ?_, ?_⟩⟩
        · simp [Sort.putRow, Sort.mapBlock, Sort.ahead, Array.getElem?_modify, hg, Sort.onCells]
        · simp [Sort.putCells, hcs']
        · rw [Nat.mul_one]; exact take_putCells (compact_len zs) (by omega)
      · intro b h; cases h; rfl
theorem map_take {α β : Type} (xs : List α) (f : α → β) (h : Nat) : (xs.map f).take h = (xs.take h).map f := by simp [List.map_take]
section
variable {P : Program} {o : Oper} {s : List (Nat × AV)}
end
end Go.Proofs.YtohjpfkcahlfkaaGreat.Sy
