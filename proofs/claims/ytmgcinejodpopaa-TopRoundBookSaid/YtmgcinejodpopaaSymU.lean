/- slices.Compact at []int: the shelf's contract, as a contract that takes a row -/
import Derived.Test.YtmgcinejodpopaaSymT
import Derived.Shelf.Slices.CompactI
set_option linter.unusedSimpArgs false
set_option linter.unusedVariables false
namespace Go.Proofs.Ytmgcinejodpopaa.Sy
open Go.RowKit
theorem compact_len (zs : List Int) : (Lib.compact zs).length ≤ zs.length := by
  simp only [Lib.compact, Lib.compactUpTo, List.length_map]
  exact Nat.le_trans (List.length_filter_le _ _) (by simp)
theorem take_putCells {enc : Int → Value} {ys zs : List Int} {cur : Array Value} (hn : ys.length ≤ zs.length) (hc : zs.length ≤ cur.size) :
    (Sort.putCells enc 0 (ys ++ List.replicate (zs.length - ys.length) 0).toArray cur).toList.take ys.length = ys.map enc := by
  apply List.ext_getElem?
  intro k
  rw [List.getElem?_take]
  split
  · rename_i hk
    have h1 : k < cur.size := by omega
    rw [Array.getElem?_toList, Sort.putCells, Array.getElem?_mapIdx, Array.getElem?_eq_getElem h1]
    simp only [Option.map_some, Nat.zero_le, Nat.zero_add, Nat.sub_zero, true_and, List.size_toArray, List.length_append, List.length_replicate]
    rw [if_pos (by omega)]
    simp [List.getElem?_append_left hk, hk, getElem!_def]
  · rename_i hk
    rw [List.getElem?_eq_none (by simp; omega)]
theorem ft_compactI {P : Program} {ρ : Shelf.Ren} (L : Lays2.n20 P ρ) {E : TypeId} (r : Nat) (hr : Nat.beq r 0 = false) {zs : List Int} (hroom : room 8 zs.length = true) :
    FT P (ρ.f 20) [.ref 0] [.row 0 E 1 (zs.map fun z => [D.v (.int .i64 z)])] [] (.ref r) [.row r E 1 ((Lib.compact zs).map fun z => [D.v (.int .i64 z)])] := by
  intro env w0 M O R0 hst _
  have hr0 : r ≠ 0 := fun e => by subst e; cases hr
  obtain ⟨hs, cells, hown, hob, hcd⟩ := hst.holds _ (List.mem_singleton.2 rfl)
  have hfl : ∀ ys : List Int, (ys.map fun z => [D.v (.int .i64 z)]).flatten = ys.map fun z => D.v (.int .i64 z) := by
    intro ys; induction ys with
    | nil => rfl
    | cons y ys ih => simp [ih]
  have hcl : cells.length = zs.length := by have := hown.1; simpa using this
  have hcells : cells = zs.map (Value.int .i64) := by
    apply List.ext_getElem?
    intro k
    rw [List.getElem?_map]
    by_cases hk : k < zs.length
    · obtain ⟨u, h1, h2, _⟩ := hcd k (D.v (.int .i64 zs[k])) (by rw [hfl, List.getElem?_map, List.getElem?_eq_getElem hk]; rfl)
      rw [h1, List.getElem?_eq_getElem hk]
      exact congrArg some h2
    · rw [List.getElem?_eq_none (by omega), List.getElem?_eq_none (by omega)]; rfl
  subst hcells
  have hmax : zs.length ≤ 9223372036854775807 := by
    simp only [room, Bool.and_eq_true, decide_eq_true_eq] at hroom
    have := hroom.1; have := hroom.2
    first | omega | (simp [maxLen] at *; omega)
  have hrest : ∀ (v : Value) (W' : World) (Or : Nat → Prop), Keep (fun b => O 0 b) w0 W' → (∀ b, Or b → (O 0 b ∨ w0.heap.size ≤ b) ∧ b < W'.heap.size) → v = oneOf v → W'.ownsRow 0 E 1 v (Lib.compact zs).length ((Lib.compact zs).map (Value.int .i64)) → (∀ b, v.ownBlock = some b → Or b) →
      PostT ⟨w0, M, R0⟩ env [0] (.ref r) [.row r E 1 ((Lib.compact zs).map fun z => [D.v (.int .i64 z)])] (.returned v) W' := by
    intro v W' Or hk hOr hone how hob'
    obtain ⟨O', hst'⟩ := St.replace (y := .row r E 1 ((Lib.compact zs).map fun z => [D.v (.int .i64 z)])) (v := v) hst 0 rfl hk hOr (by
        simp [hasV, NEnt.has, NEnt.name, Ne.symm hr0]) (by
      refine ⟨by simp, (Lib.compact zs).map (Value.int .i64), ?_, ?_, ?_⟩
      · simpa [setEnv_same, NEnt.name] using how
      · simpa [setEnv_same, NEnt.name] using hob'
      · intro k d hd
        rw [hfl, List.getElem?_map] at hd
        obtain ⟨z, hz, rfl⟩ := Option.map_eq_some_iff.1 hd
        exact ⟨.int .i64 z, by rw [List.getElem?_map, hz]; rfl, rfl, rfl⟩)
    refine ⟨v, rfl, _, O', _, fun n hn => ?_, ?_, hst'⟩
    · exact setEnv_other (hn _ (List.mem_singleton.2 rfl) (by simp [NEnt.name, hr0]))
    · simp only [AV.den, NEnt.name, setEnv_same]; exact hone
  rcases hown with ⟨hlen, ⟨hv, hn⟩ | ⟨g, cap, cur, hv, hb, hg, hnc, hcm, hcs, htake⟩⟩
  · have hz : zs = [] := by simpa using hn
    have hv' : env 0 = .slice none 0 0 := hv
    have ha : (AV.denL env [AV.ref 0]).toArray = #[.slice none 0 0] := by simp [AV.denL, AV.den, hv', oneOf]
    rw [ha]
    refine (Any.slices_Compact_int_empty L none 0 w0).mono ?_
    rintro e w' ⟨rfl, rfl⟩
    subst hz
    exact hrest _ _ (fun _ => False) (Keep.refl _ _) (fun _ h => h.elim) rfl ⟨rfl, .inl ⟨rfl, rfl⟩⟩ (fun b h => by cases h)
  · have hv' : env 0 = .slice (some ⟨g, 0, none⟩) zs.length cap := by simpa [NEnt.name] using hv
    have ha : (AV.denL env [AV.ref 0]).toArray = #[.slice (some ⟨g, 0, none⟩) zs.length cap] := by simp [AV.denL, AV.den, hv', oneOf]
    have hnc' : zs.length ≤ cap := by simpa using hnc
    have hcs' : cur.size = cap := by simpa using hcs
    rw [ha]
    have hOg : O 0 g := hob g (by rw [hv']; rfl)
    refine (Any.slices_Compact_int L g 0 cap zs w0 ?_ hmax hnc').mono ?_
    · intro j hj
      have hj' : j < zs.length := by simpa using hj
      have hjc : j < cur.size := by omega
      have hcell : cur[j]? = some (.int .i64 zs[j]) := by
        have h1 : (cur.toList.take zs.length)[j]? = some (Value.int .i64 zs[j]) := by
          have h2 := htake
          simp only [List.length_map, Nat.mul_one] at h2
          rw [h2, List.getElem?_map, List.getElem?_eq_getElem hj']; rfl
        rw [List.getElem?_take, if_pos hj', Array.getElem?_toList] at h1
        exact h1
      refine ⟨?_, ?_⟩
      · simp [World.cell?, hg, hcell, hj', getElem!_def]
      · simp [World.frozen?, hg]
    · rintro e w' ⟨rfl, q, rfl⟩
      refine hrest _ _ (fun b => b = g) ?_ ?_ rfl ?_ ?_
      · refine ⟨rfl, rfl, rfl, by simp [Sort.putRow, Sort.mapBlock, Sort.ahead], fun k hk hne => ?_⟩
        have : g ≠ k := fun e => hne (by rw [← e]; exact hOg)
        simp [Sort.putRow, Sort.mapBlock, Sort.ahead, Array.getElem?_modify, this]
      · rintro b rfl
        exact ⟨.inl hOg, by
          have := (Array.getElem?_eq_some_iff.1 hg).1
          simpa [Sort.putRow, Sort.mapBlock, Sort.ahead] using this⟩
      · refine ⟨by simp, .inr ⟨g, cap, Sort.putCells (Value.int .i64) 0 (Lib.compact zs ++ List.replicate (zs.length - (Lib.compact zs).length) 0).toArray cur, rfl, Nat.zero_le _, ?_, Nat.le_trans (compact_len zs) hnc', hcm, ?_, ?_⟩⟩
        · simp [Sort.putRow, Sort.mapBlock, Sort.ahead, Array.getElem?_modify, hg, Sort.onCells]
        · simp [Sort.putCells, hcs']
        · rw [Nat.mul_one]; exact take_putCells (compact_len zs) (by omega)
      · intro b h; cases h; rfl
theorem map_take {α β : Type} (xs : List α) (f : α → β) (h : Nat) : (xs.map f).take h = (xs.take h).map f := by simp [List.map_take]
section
variable {P : Program} {o : Oper} {s : List (Nat × AV)}
/-- an owned row is cut: its first elements stay owned -/
theorem ts_prefix {T E size bytes n N : Nat} (r : Nat) {x : Operand} {hi : Option Operand} {h : Int} {els els' : List (List D)} (hl : els.length = N) (ho : o.op = .slice T x none hi none) (hx : rho s x = some (.ref n)) (hT : SlT P T E size bytes)
    (hhi : Cut (rho s) hi (N : Int) h) (hb : (decide (0 ≤ h) && decide (h ≤ (N : Int))) = true) (he : els.take h.toNat = els') (hrn : (r == n) = false) : TSpec P o (rho s) [.row n E size els] [] (.ref r) [.row r E size els'] := by
  subst hl; subst he
  intro ev c env V W O R hev hst ht _ hnn
  have hxm : NEnt.row n E size els ∈ V := ht _ (List.mem_singleton.2 rfl)
  obtain ⟨k, hkk⟩ := List.mem_iff_getElem?.1 hxm
  have hrV : hasV r V = false := by
    rcases hnn _ (List.mem_singleton.2 rfl) with h | h
    · simp only [NEnt.name, List.map_cons, List.map_nil, List.mem_singleton] at h
      rw [h] at hrn; simp at hrn
    · exact h
  simp only [Bool.and_eq_true, decide_eq_true_eq] at hb
  obtain ⟨h, rfl⟩ : ∃ h' : Nat, h = h' := ⟨h.toNat, by omega⟩
  simp only [Int.toNat_natCast]
  have hle : h ≤ els.length := by omega
  obtain ⟨hs, cells, hown, hob, hcd⟩ := hst.holds _ hxm
  obtain ⟨ti, z, hti, _, hts, _, _⟩ := hT.info
  obtain ⟨a, cap, hv, hlc⟩ : ∃ a cap, env n = .slice a els.length cap ∧ els.length ≤ cap := by
    rcases hown.2 with ⟨hv, h0⟩ | ⟨g, cap, cur, hv, _, _, hnc, _⟩
    · exact ⟨none, 0, by rw [h0]; exact hv, by omega⟩
    · exact ⟨_, cap, hv, hnc⟩
  have hx' := hev x _ hx
  simp only [AV.den, hv, oneOf] at hx'
  have hrun : (execOp ev o).run P W = .ok (.value (.slice a h cap)) W := by
    have hsb : ∀ (w : World), (Instr.sliceBounds true els.length cap none (hi.map ev) none).run P w = .ok (0, h, cap) w := by
      intro w
      have hhc : h ≤ cap := by omega
      cases hi with
      | none => simp only [Cut] at hhi; have : h = els.length := by omega
                simp [Instr.sliceBounds, this]
      | some y => obtain ⟨kk, hk⟩ := hhi; simp [Instr.sliceBounds, hev y _ hk, AV.den, Instr.sliceBound, asIntOf, hhc]
    have hmap : (if cap = 0 then a else a.map (·.add (0 * size))) = a := by
      split
      · rfl
      · cases a with
        | none => rfl
        | some ad => simp [Addr.add]
    simp only [execOp, ho, Instr.sliceAt, Instr.slice, Sem.run_bind, run_underlying hT.under, Result.andThen_ok, hx', Option.map_none, hsb, sizeOf, typeInfo, run_program, hti, hts, Sem.run_pure, Nat.sub_zero, hmap]
  rw [hrun]
  have hown' : W.ownsRow 0 E size (.slice a h cap) h (cells.take (h * size)) := by
    refine ⟨by rw [List.length_take, hown.1]; exact Nat.min_eq_left (Nat.mul_le_mul_right _ hle), ?_⟩
    rcases hown.2 with ⟨hv2, h0⟩ | ⟨g, cap2, cur, hv2, q1, q2, q3, q4, q5, q6⟩
    · have hv3 : env n = .slice none 0 0 := hv2
      rw [hv3] at hv
      simp only [Value.slice.injEq] at hv
      obtain ⟨rfl, h0', rfl⟩ := hv
      exact .inl ⟨by rw [show h = 0 by omega], by omega⟩
    · have hv3 : env n = .slice (some ⟨g, 0, none⟩) els.length cap2 := hv2
      rw [hv3] at hv
      simp only [Value.slice.injEq, true_and] at hv
      obtain ⟨rfl, rfl⟩ := hv
      refine .inr ⟨g, cap2, cur, rfl, q1, q2, by omega, q4, q5, ?_⟩
      rw [← q6, List.take_take, Nat.min_eq_left (Nat.mul_le_mul_right _ hle)]
  have hone' : oneOf (.slice a h cap) = .slice a h cap := rfl
  obtain ⟨O', hst'⟩ := hst.replace (y := .row r E size (els.take h)) (v := .slice a h cap) (Or := fun b => (Value.slice a h cap).ownBlock = some b) k hkk (Keep.refl _ W) (fun b hb => by
      refine ⟨.inl (hob b ?_), (hown'.lt b hb).2⟩
      show (env n).ownBlock = some b
      rw [hv]
      cases a with
      | none => cases hb
      | some ad => exact hb) hrV (by
    simp only [NEnt.name, NEnt.holds, setEnv_same]
    refine ⟨fun el he => hs el (List.mem_of_mem_take he), cells.take (h * size), by simpa [Nat.min_eq_left hle] using hown', fun b hb => hb, fun q d hq => ?_⟩
    have hfl := flatten_len els hs
    have hft : (els.take h).flatten = els.flatten.take (h * size) := by
      have e : els.flatten = (els.take h).flatten ++ (els.drop h).flatten := by rw [← List.flatten_append, List.take_append_drop]
      have e2 : (els.take h).flatten.length = h * size := by
        rw [flatten_len (els.take h) fun el he => hs el (List.mem_of_mem_take he), List.length_take, Nat.min_eq_left hle]
      rw [e, ← e2, List.take_left]
    rw [hft, List.getElem?_take] at hq
    split at hq
    · rename_i hlt
      obtain ⟨u, hu, hok'⟩ := hcd q d hq
      exact ⟨u, by rw [List.getElem?_take_of_lt hlt]; exact hu, hok'⟩
    · cases hq)
  refine ⟨_, O', R, fun q hq => ?_, ?_, hst'.sub (V' := [.row r E size (els.take h)] ++ delV [n] V) id (fun z hz => ?_) ?_⟩
  · refine setEnv_other fun e => ?_
    by_cases h : r ∈ [n]
    · simp only [List.mem_singleton] at h
      rw [h] at hrn; simp at hrn
    · exact hq _ (List.mem_singleton.2 rfl) (by simpa [NEnt.name] using h) (by simpa [NEnt.name] using e)
  · show (.slice a h cap) = oneOf (setEnv env r (.slice a h cap) r)
    rw [setEnv_same, hone']
  · rw [NEnt.ren_id]
    rcases List.mem_append.1 hz with hz | hz
    · exact List.mem_cons.2 (.inl (List.mem_singleton.1 hz))
    · obtain ⟨h1, h2⟩ := mem_delV.1 hz
      refine List.mem_cons_of_mem _ ?_
      obtain ⟨q, hq⟩ := List.mem_iff_getElem?.1 h1
      have hqk : q ≠ k := fun e => by
        subst e; rw [hkk] at hq; cases hq; simp [NEnt.name] at h2
      refine List.mem_iff_getElem?.2 ?_
      rcases Nat.lt_or_gt_of_ne hqk with hlt | hgt
      · exact ⟨q, by rw [List.getElem?_eraseIdx, if_pos hlt]; exact hq⟩
      · exact ⟨q - 1, by rw [List.getElem?_eraseIdx, if_neg (by omega), show q - 1 + 1 = q by omega]; exact hq⟩
  · simp only [id, List.cons_append, List.nil_append, List.map_cons, List.nodup_cons]
    refine ⟨fun hmm => ?_, hst.names.sublist ((delV_sub _ _).map NEnt.name)⟩
    obtain ⟨z, hz, e⟩ := List.mem_map.1 hmm
    have := mem_has (mem_delV.1 hz).1 (NEnt.has_name z)
    rw [e] at this
    simp only [NEnt.name] at this
    rw [hrV] at this; cases this
end
end Go.Proofs.Ytmgcinejodpopaa.Sy
