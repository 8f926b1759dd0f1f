/- The walks of the laws' copies of slices, and of their comparison. -/
import Derived.Test.YtpjlihkpnhamlaaPulseKnown
import Derived.Test.YtpjlihkpnhamlaaOwn
import Derived.Test.YtpjlihkpnhamlaaOpen
set_option linter.unusedSimpArgs false
set_option linter.unusedVariables false
namespace Go.Proofs.Ytpjlihkpnhamlaa
open Go.RowKit Go.Shelf

def flatP (fs : List (Int × Int)) : List Value := fs.flatMap fun x => [Value.int .i64 x.1, Value.int .i64 x.2]
theorem flatP_len (fs : List (Int × Int)) : (flatP fs).length = fs.length * 2 := by
  induction fs with
  | nil => rfl
  | cons x tl ih => simp only [flatP, List.flatMap_cons, List.length_append, List.length_cons, List.length_nil] at *; omega
theorem flatP_snoc (fs : List (Int × Int)) (x : Int × Int) : flatP (fs ++ [x]) = flatP fs ++ [.int .i64 x.1, .int .i64 x.2] := by simp [flatP]
theorem flatP_one (fs : List (Int × Int)) : ∀ u ∈ flatP fs, u.oneCell' = true := by
  intro u hu
  obtain ⟨x, _, hx⟩ := List.mem_flatMap.1 hu
  simp at hx
  rcases hx with rfl | rfl <;> rfl
theorem pairs_cells {w : World} {a : Option Addr} {fs : List (Int × Int)} (h : PairsAt w a fs) : CellsAt w a (flatP fs) := fun hn => by
  have h0 : 0 < fs.length := by cases fs with | nil => exact absurd rfl hn | cons x tl => simp
  obtain ⟨b, o, e, hlt, _⟩ := h 0 h0
  refine ⟨b, o, e, hlt, fun j u hu => ?_⟩
  have hj : j < (flatP fs).length := by
    rcases Nat.lt_or_ge j (flatP fs).length with q | q
    · exact q
    · rw [List.getElem?_eq_none q] at hu; cases hu
  rw [flatP_len] at hj
  obtain ⟨b', o', e', _, c1, c2⟩ := h (j / 2) (by omega)
  rw [e] at e'
  obtain ⟨rfl, rfl⟩ : b = b' ∧ o = o' := by simpa using e'
  have hf := flat2 fs (j / 2) (by omega)
  by_cases q : j % 2 = 0
  · have ej : j / 2 * 2 = j := by omega
    rw [ej] at hf c1
    have := hf.1.symm.trans hu
    cases this
    exact c1
  · have ej : j / 2 * 2 + 1 = j := by omega
    rw [ej] at hf
    rw [show o + j / 2 * 2 + 1 = o + j by omega] at c2
    have := hf.2.symm.trans hu
    cases this
    exact c2
theorem cells_pairs {w : World} {a : Option Addr} {fs : List (Int × Int)} (h : CellsAt w a (flatP fs)) : PairsAt w a fs := fun i hi => by
  obtain ⟨b, o, e, hlt, hc⟩ := h (fun hn => by have := flatP_len fs; rw [hn] at this; simp at this; omega)
  have hf := flat2 fs i hi
  exact ⟨b, o, e, hlt, hc _ _ hf.1, hc _ _ hf.2⟩
theorem pairs_is {w : World} {a : Option Addr} {fs : List (Int × Int)} (h : PairsAt w a fs) (hl : fs.length ≤ 140737488355327) : IsPairs w a fs := ⟨hl, h⟩

def CopyPost (fs : List (Int × Int)) (w : World) (en : Ending) (w' : World) : Prop :=
  ∃ a cp, en = .returned (.slice a fs.length cp) ∧ fs.length ≤ cp ∧ PairsAt w' a fs ∧ Below w.heap.size w w'
theorem info_fault : (Try.prog.info? 67).map (fun i => (i.zero, i.size, i.bytes)) = some (some (.agg #[.int .i64 0, .int .i64 0]), 2, 16) := by kernel_rfl
theorem info_seen : (Try.prog.info? 53).map (fun i => (i.zero, i.size, i.bytes)) = some (some (.agg #[.int .i64 0, .int .i64 0]), 2, 16) := by kernel_rfl

set_option maxRecDepth 100000 in
set_option maxHeartbeats 1000000 in
theorem faults_any (a : Option Addr) (cp : Nat) (fs : List (Int × Int)) (w : World) (h : PairsAt w a fs) (hl : fs.length ≤ 1000) :
    Calls Try.prog 12 #[.slice a fs.length cp] w (CopyPost fs w) := by
  obtain ⟨i0, hinf, hz0, hz1, hz2⟩ := info_parts info_fault
  have HC := Lib.hid ((pairs_cells h).below (w' := w.alloc (.cells #[] 67)) (by repeat first | exact Below.refl _ _ | assumption | (refine Below.alloc ?_ (by first | omega | (simp; done) | (simp; omega)) _) | (refine Below.setCell ?_ (by first | omega | (simp; done) | (simp; omega)) _) | (refine Below.drew ?_) | (refine belowDrewN ?_) | (refine Below.trans ?_ (Below.mono (by assumption) (by first | omega | (simp; done) | (simp; omega)))))); clear h
  have HR : Hid ((w.alloc (.cells #[] 67)).ownsRow w.heap.size 67 2 (.slice (some ⟨w.heap.size, 0, none⟩) 0 0) 0 []) := Lib.hid ⟨rfl, .inr ⟨w.heap.size, 0, #[], rfl, Nat.le_refl _, Blk.new _ _ _, Nat.le_refl _, by unfold maxLen; omega, rfl, rfl⟩⟩
  go_enter Try.func12, Try.ntmps12
  go_wp2_with (at_builtin; go_must (refine wpList_append_list _ rfl _ _ 26 rfl w.heap.size 67 i0 (.agg #[.int .i64 0, .int .i64 0]) 2 16 Try.underlying26 hinf hz0 hz1 hz2 rfl (by decide) _ 0 [] rfl HR.out a fs.length cp (flatP fs) rfl HC.out (flatP_len fs) (flatP_one fs) (by unfold maxLen; omega) (by omega) (by simp) ?_); intro a2 cp2 w2 hown hle hgr hat)
  go_ret
  simp only [Nat.zero_add, List.nil_append] at hown hle ⊢
  exact ⟨a2, cp2, rfl, hle, cells_pairs (owns_cells hown), ((Keeps.alloc (fun _ => False) w _).mono fun _ _ h => h.elim).trans (Keeps.grown _ hgr) |>.to_below (Nat.le_refl _) (fun b hb => by cases hb; exact Nat.le_refl _)⟩

set_option maxRecDepth 100000 in
set_option maxHeartbeats 1000000 in
theorem seen_any (a : Option Addr) (cp : Nat) (fs : List (Int × Int)) (w : World) (h : PairsAt w a fs) (hl : fs.length ≤ 1000) :
    Calls Try.prog 26 #[.slice a fs.length cp] w (CopyPost fs w) := by
  obtain ⟨i0, hinf, hz0, hz1, hz2⟩ := info_parts info_seen
  have HC := Lib.hid ((pairs_cells h).below (w' := w.alloc (.cells #[] 53)) (by repeat first | exact Below.refl _ _ | assumption | (refine Below.alloc ?_ (by first | omega | (simp; done) | (simp; omega)) _) | (refine Below.setCell ?_ (by first | omega | (simp; done) | (simp; omega)) _) | (refine Below.drew ?_) | (refine belowDrewN ?_) | (refine Below.trans ?_ (Below.mono (by assumption) (by first | omega | (simp; done) | (simp; omega)))))); clear h
  have HR : Hid ((w.alloc (.cells #[] 53)).ownsRow w.heap.size 53 2 (.slice (some ⟨w.heap.size, 0, none⟩) 0 0) 0 []) := Lib.hid ⟨rfl, .inr ⟨w.heap.size, 0, #[], rfl, Nat.le_refl _, Blk.new _ _ _, Nat.le_refl _, by unfold maxLen; omega, rfl, rfl⟩⟩
  go_enter Try.func26, Try.ntmps26
  go_wp2_with (at_builtin; go_must (refine wpList_append_list _ rfl _ _ 50 rfl w.heap.size 53 i0 (.agg #[.int .i64 0, .int .i64 0]) 2 16 Try.underlying50 hinf hz0 hz1 hz2 rfl (by decide) _ 0 [] rfl HR.out a fs.length cp (flatP fs) rfl HC.out (flatP_len fs) (flatP_one fs) (by unfold maxLen; omega) (by omega) (by simp) ?_); intro a2 cp2 w2 hown hle hgr hat)
  go_ret
  simp only [Nat.zero_add, List.nil_append] at hown hle ⊢
  exact ⟨a2, cp2, rfl, hle, cells_pairs (owns_cells hown), ((Keeps.alloc (fun _ => False) w _).mono fun _ _ h => h.elim).trans (Keeps.grown _ hgr) |>.to_below (Nat.le_refl _) (fun b hb => by cases hb; exact Nat.le_refl _)⟩


set_option maxHeartbeats 1000000 in
theorem same_eq (a b : Option Addr) (cp cq : Nat) (fs : List (Int × Int)) (w : World) (ha : PairsAt w a fs) (hb : PairsAt w b fs) (hl : fs.length ≤ 1000) :
    Calls Try.prog 15 #[.slice a fs.length cp, .slice b fs.length cq] w (Ret w (.bool true)) := by
  have HA := Lib.hid ha; have HB := Lib.hid hb; clear ha hb
  go_enter Try.func15, Try.ntmps15
  go_wp2_with fail
  go_loopw [5] (fun i wr => ∃ k : Nat, k ≤ fs.length ∧ i = .int .i64 k ∧ Below w.heap.size w wr) (fun i _ => fs.length - (intOf i).toNat)
  case atStart => exact ⟨0, Nat.zero_le _, rfl, Below.refl _ _⟩
  case round =>
    obtain ⟨k, hk, rfl, hbl⟩ := hrel
    by_cases hlt : k < fs.length
    · obtain ⟨b1, o1, rfl, hb1, c1, c2⟩ := HA.out k hlt
      obtain ⟨b2, o2, rfl, hb2, d1, d2⟩ := HB.out k hlt
      have e1 : wr.cell? ⟨b1, o1 + k * 2, none⟩ = some (.int .i64 fs[k].1) := (hbl.cell (p := ⟨b1, _, none⟩) hb1).trans c1
      have e2 : wr.cell? ⟨b1, o1 + k * 2 + 1, none⟩ = some (.int .i64 fs[k].2) := (hbl.cell (p := ⟨b1, _, none⟩) hb1).trans c2
      have e3 : wr.cell? ⟨b2, o2 + k * 2, none⟩ = some (.int .i64 fs[k].1) := (hbl.cell (p := ⟨b2, _, none⟩) hb2).trans d1
      have e4 : wr.cell? ⟨b2, o2 + k * 2 + 1, none⟩ = some (.int .i64 fs[k].2) := (hbl.cell (p := ⟨b2, _, none⟩) hb2).trans d2
      clear c1 c2 d1 d2
      go_wp2_with fail
      (refine wp_region_quiet_lit (by kernel_rfl) (by kernel_rfl) ?_; (repeat (any_goals (first | go_big_quiet_step (fail) | quiet_step (fail) | (refine wpQuiet_step (fun K hK => ?_); go_simp; split <;> (refine hK _ ?_; clear hK K))))); (all_goals (refine wpQuiet_nil ?_; intro _ hw'; obtain ⟨nq, hw''⟩ := hw'; subst hw'')))
      all_goals go_wp2_with fail
      all_goals exact ⟨⟨k + 1, by omega, by go_num, (by repeat first | exact Below.refl _ _ | assumption | (refine Below.alloc ?_ (by first | omega | (simp; done) | (simp; omega)) _) | (refine Below.setCell ?_ (by first | omega | (simp; done) | (simp; omega)) _) | (refine Below.drew ?_) | (refine belowDrewN ?_) | (refine Below.trans ?_ (Below.mono (by assumption) (by first | omega | (simp; done) | (simp; omega)))))⟩, by simp [intOf]; omega⟩
    · go_wp2_with fail
      go_ret
      exact ret_bool rfl hbl
end Go.Proofs.Ytpjlihkpnhamlaa
