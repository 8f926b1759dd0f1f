/- For statements of the second form: what the bound gives. -/
import Derived.Test.YtabjhlfgcmmbfaaRows
import Derived.Test.YtabjhlfgcmmbfaaSymO
set_option linter.unusedSimpArgs false
set_option linter.unusedVariables false
namespace Go.Proofs.Ytabjhlfgcmmbfaa.Sy
open Go.RowKit
theorem up_one {H : Type} (d : DataW H) : 1 ≤ Rows.uptoBulk d := by
  cases d with
  | lit l => cases l <;> simp [Rows.uptoBulk]
  | _ => simp [Rows.uptoBulk]
theorem up_len {H : Type} : ∀ l : List (DataW H), l.length ≤ Rows.uptoBulkAll l
  | [] => by simp
  | x :: r => by have := up_one x; have := up_len r; simp only [Rows.uptoBulkAll, List.length_cons]; omega
theorem up_part {H : Type} {d : DataW H} : ∀ {l : List (DataW H)}, d ∈ l → Rows.uptoBulk d ≤ Rows.uptoBulkAll l
  | x :: r, h => by
    simp only [Rows.uptoBulkAll]
    rcases List.mem_cons.1 h with e | e
    · subst e; omega
    · have := up_part e; omega
theorem mapM_mem {α β : Type} {f : α → Option β} : ∀ {l : List α} {ys : List β}, l.mapM f = some ys → ys.length = l.length ∧ ∀ x ∈ l, ∃ y ∈ ys, f x = some y
  | [], ys, h => by simp at h; subst h; simp
  | x :: l, ys, h => by
    rw [List.mapM_cons] at h
    cases hx : f x with
    | none => rw [hx] at h; cases h
    | some y =>
      rw [hx] at h
      cases hl : l.mapM f with
      | none => rw [hl] at h; cases h
      | some zs =>
        rw [hl] at h
        cases h
        obtain ⟨h1, h2⟩ := mapM_mem hl
        refine ⟨by simp [h1], fun z hz => ?_⟩
        rcases List.mem_cons.1 hz with rfl | hz
        · exact ⟨y, by simp, hx⟩
        · obtain ⟨q, hq, e⟩ := h2 z hz
          exact ⟨q, by simp [hq], e⟩
section
variable {H : Type} {enc : TypeId × Value → H} {P : Program} {w : World} {base : Nat} {spare : Nat → Bool} {held : Bool}
theorem up_slice0 {T E : TypeId} (hu : P.underlying T = some (.slice E)) {n : Nat} {b : Option Addr} {len cap : Nat} {x : DataW H × List MemPlace} (h : DataW.trod enc P w base spare held n T [.slice b len cap] = some x) : len ≤ Rows.uptoBulk x.1 := by
  cases n with
  | zero => simp [DataW.trod] at h
  | succ n =>
    unfold DataW.trod at h
    rw [hu] at h
    cases b with
    | none =>
      cases len with
      | zero => exact Nat.zero_le _
      | succ len => simp at h
    | some a =>
      simp only at h
      split at h
      · cases hm : (List.range len).mapM (fun i => (w.cells? base (a.add (i * P.cellsOf E)) (P.cellsOf E)).bind (DataW.trod enc P w base spare held n E)) with
        | none => rw [hm] at h; simp at h
        | some elems =>
          rw [hm] at h
          simp only [Option.bind_some] at h
          obtain ⟨rest, _, rfl⟩ := Option.map_eq_some_iff.1 h
          have hl := (mapM_mem hm).1
          rw [List.length_range] at hl
          have := up_len (elems.map (·.1))
          rw [List.length_map] at this
          simp only [Rows.uptoBulk]
          omega
      · cases h
theorem up_slice {T E : TypeId} (hu : P.underlying T = some (.slice E)) {b : Option Addr} {len cap : Nat} {d : DataW H} {p : List MemPlace} (h : DataW.Trod enc P w base spare held T (.slice b len cap) d p) : len ≤ Rows.uptoBulk d := by
  obtain ⟨n, hn⟩ := h
  exact up_slice0 hu hn
theorem up_struct {T : TypeId} {fs : Array Field} {E : TypeId} {cs : List Value} (i : Nat) {f : Field} (hu : P.underlying T = some (.struct fs)) (hf : fs[i]? = some f) (hq : P.underlying f.type = some (.slice E)) {b : Option Addr} {len cap : Nat} (hc : (cs.drop f.offset).take (P.cellsOf f.type) = [.slice b len cap])
    {d : DataW H} {p : List MemPlace} (h : DataW.Trod enc P w base spare held T (.agg cs.toArray) d p) : len ≤ Rows.uptoBulk d := by
  obtain ⟨n, hn0⟩ := h
  have hn : DataW.trod enc P w base spare held n T cs = some (d, p) := hn0
  clear hn0
  cases n with
  | zero => simp [DataW.trod] at hn
  | succ n =>
    unfold DataW.trod at hn
    rw [hu] at hn
    simp only at hn
    by_cases hlen : cs.length = P.cellsOf T
    · rw [if_pos hlen] at hn
      obtain ⟨xs, hm, e⟩ := Option.map_eq_some_iff.1 hn
      have hmem : f ∈ fs.toList := List.mem_of_getElem? (by rw [Array.getElem?_toList]; exact hf)
      obtain ⟨y, hy, hy2⟩ := (mapM_mem hm).2 f hmem
      rw [hc] at hy2
      have h1 := up_slice0 hq hy2
      have h2 := up_part (List.mem_map_of_mem (f := (·.1)) hy)
      cases e
      simp only [Rows.uptoBulk]
      omega
    · rw [if_neg hlen] at hn
      cases hn
theorem up_reads {size : Nat} {α : Type} {en : α → List D} {xs : List α} {W : World} {R : Nat → Prop} {b : Option Addr} {len cap : Nat} (h : reads size (xs.map en) W R (.slice b len cap)) : xs.length = len := by
  obtain ⟨a, c, e, _⟩ := h
  simp only [Value.slice.injEq, List.length_map] at e
  exact e.2.1.symm
end
end Go.Proofs.Ytabjhlfgcmmbfaa.Sy
