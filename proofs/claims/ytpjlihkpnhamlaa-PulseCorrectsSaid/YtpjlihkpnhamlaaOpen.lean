/- Arguments that came in, opened: what their reading as data says of their values. -/
import Derived.Test.YtpjlihkpnhamlaaBase
import Derived.ProofKit
import Derived.OpenShut
import Derived.Lib.SmallJoins
import Derived.Deep.SlicePairs
set_option linter.unusedSimpArgs false
set_option linter.unusedVariables false
namespace Go.Proofs.Ytpjlihkpnhamlaa
open Go.RowKit Go.Shelf Go.Joins Go.Deep

section
variable {H : Type} {enc : TypeId × Value → H} {P : Program} {w : World} {base b0 : Nat} {spare : Nat → Bool} {held : Bool} {t : TypeId} {r : Reach} {v : Value} {d : DataW H} {p : List MemPlace}

theorem op_agg2 {f0 f1 : Field} {k0 k1 : IntKind} (hs : P.underlying t = some (.struct #[f0, f1])) (hone : oneCellFields P #[f0, f1] = true) (hC : P.cellsOf t = 2) (t0 : P.underlying f0.type = some (.int k0)) (t1 : P.underlying f1.type = some (.int k1))
    (hv : Value.okWide P w r b0 t v) (h : DataW.Trod enc P w base spare held t v d p) : ∃ x0 x1 : Int, v = .agg #[.int k0 x0, .int k1 x1] ∧ (Lit.int k0 x0).wf = true ∧ (Lit.int k1 x1).wf = true := by
  obtain ⟨c0, c1, y0, y1, n, rfl, _, _, g0, g1⟩ := open_agg2 hs hone hC hv h
  obtain ⟨x0, e0, _, w0⟩ := DataW.trod_int t0 g0
  obtain ⟨x1, e1, _, w1⟩ := DataW.trod_int t1 g1
  simp at e0 e1
  subst e0 e1
  exact ⟨x0, x1, rfl, w0, w1⟩
theorem op_agg3 {f0 f1 f2 : Field} {k0 k1 k2 : IntKind} (hs : P.underlying t = some (.struct #[f0, f1, f2])) (hone : oneCellFields P #[f0, f1, f2] = true) (hC : P.cellsOf t = 3) (t0 : P.underlying f0.type = some (.int k0)) (t1 : P.underlying f1.type = some (.int k1)) (t2 : P.underlying f2.type = some (.int k2))
    (hv : Value.okWide P w r b0 t v) (h : DataW.Trod enc P w base spare held t v d p) : ∃ x0 x1 x2 : Int, v = .agg #[.int k0 x0, .int k1 x1, .int k2 x2] ∧ (Lit.int k0 x0).wf = true ∧ (Lit.int k1 x1).wf = true ∧ (Lit.int k2 x2).wf = true := by
  obtain ⟨c0, c1, c2, y0, y1, y2, n, rfl, _, _, g0, g1, g2⟩ := open_agg3 hs hone hC hv h
  obtain ⟨x0, e0, _, w0⟩ := DataW.trod_int t0 g0
  obtain ⟨x1, e1, _, w1⟩ := DataW.trod_int t1 g1
  obtain ⟨x2, e2, _, w2⟩ := DataW.trod_int t2 g2
  simp at e0 e1 e2
  subst e0 e1 e2
  exact ⟨x0, x1, x2, rfl, w0, w1, w2⟩

theorem okWide_array {n : Nat} {e : TypeId} (ht : P.underlying t = some (.array n e)) (h : Value.okWide P w r b0 t v) : ∃ cs, v = .agg cs ∧ cs.size = P.cellsOf t := by
  simp only [Value.okWide, ht] at h
  obtain ⟨cs, h1, h2, _⟩ := h
  exact ⟨cs, h1, h2⟩
theorem op_arr {n : Nat} {e : TypeId} {k : IntKind} (ht : P.underlying t = some (.array n e)) (hC : P.cellsOf t = n) (he : P.underlying e = some (.int k)) (hc : P.cellsOf e = 1)
    (hv : Value.okWide P w r b0 t v) (h : DataW.Trod enc P w base spare held t v d p) : ∃ zs : List Int, zs.length = n ∧ v = .agg (zs.map (Value.int k)).toArray ∧ ∀ z ∈ zs, (Lit.int k z).wf = true := by
  obtain ⟨cs, rfl, hsz⟩ := okWide_array ht hv
  rw [hC] at hsz
  obtain ⟨fuel, hf⟩ := h
  obtain ⟨xs, m, _, _, hlen, hxl, hx⟩ := DataW.trod_array ht hf
  have key : ∀ i (hi : i < n), ∃ z : Int, cs[i]? = some (.int k z) ∧ (Lit.int k z).wf = true := fun i hi => by
    have h1 := hx i hi
    rw [hc, Nat.mul_one, List.getElem?_eq_getElem (by omega)] at h1
    obtain ⟨z, e1, _, wz⟩ := DataW.trod_int he h1
    have e2 := congrArg (fun l => l[0]?) e1
    simp [Value.cells, List.getElem?_take] at e2
    exact ⟨z, e2, wz⟩
  have : ∃ f : Nat → Int, ∀ i, i < n → cs[i]? = some (.int k (f i)) ∧ (Lit.int k (f i)).wf = true := Go.Deep.choose_lt key
  obtain ⟨f, hf'⟩ := this
  refine ⟨(List.range n).map f, by simp, ?_, fun z hz => ?_⟩
  · congr 1
    apply Array.ext_getElem?
    intro i
    by_cases hi : i < n
    · rw [(hf' i hi).1]; simp [hi]
    · rw [Array.getElem?_eq_none (by omega), Array.getElem?_eq_none (by simp; omega)]
  · obtain ⟨i, hi, rfl⟩ := List.mem_map.1 hz
    exact (hf' i (by simpa using hi)).2

theorem list2 {α : Type} : ∀ {l : List α}, l.length = 2 → ∃ a b, l = [a, b]
  | [a, b], _ => ⟨a, b, rfl⟩
theorem list3 {α : Type} : ∀ {l : List α}, l.length = 3 → ∃ a b c, l = [a, b, c]
  | [a, b, c], _ => ⟨a, b, c, rfl⟩
theorem list4 {α : Type} : ∀ {l : List α}, l.length = 4 → ∃ a b c d, l = [a, b, c, d]
  | [a, b, c, d], _ => ⟨a, b, c, d, rfl⟩
/-- a slice value reads as a list of pairs of integers -/
def PairsAt (w : World) (a : Option Addr) (fs : List (Int × Int)) : Prop :=
  ∀ i (_ : i < fs.length), ∃ b o, a = some ⟨b, o, none⟩ ∧ b < w.heap.size ∧ w.cell? ⟨b, o + i * 2, none⟩ = some (.int .i64 fs[i].1) ∧ w.cell? ⟨b, o + i * 2 + 1, none⟩ = some (.int .i64 fs[i].2)
theorem PairsAt.below {w w' : World} {a : Option Addr} {fs : List (Int × Int)} (h : PairsAt w a fs) (hb : Below w.heap.size w w') : PairsAt w' a fs := fun i hi => by
  obtain ⟨b, o, e, hlt, hc, hd⟩ := h i hi
  exact ⟨b, o, e, Nat.lt_of_lt_of_le hlt hb.size, by rw [hb.cell (p := ⟨b, _, none⟩) hlt]; exact hc, by rw [hb.cell (p := ⟨b, _, none⟩) hlt]; exact hd⟩
theorem addr_none {w : World} {x : Addr} {v : Value} (h : w.cell? x = some v) : x.spot = none := World.cell?_spot h
theorem cell_lt {w : World} {b o : Nat} {v : Value} (h : w.cell? ⟨b, o, none⟩ = some v) : b < w.heap.size := by
  rcases Nat.lt_or_ge b w.heap.size with q | q
  · exact q
  · rw [World.cell?, Array.getElem?_eq_none q] at h; cases h
theorem op_pairs {e : TypeId} {f0 f1 : Field} (ht : P.underlying t = some (.slice e)) (he : P.underlying e = some (.struct #[f0, f1])) (ce : P.cellsOf e = 2) (o0 : f0.offset = 0) (o1 : f1.offset = 1) (c0 : P.cellsOf f0.type = 1) (c1 : P.cellsOf f1.type = 1)
    (t0 : P.underlying f0.type = some (.int .i64)) (t1 : P.underlying f1.type = some (.int .i64)) (hv : Value.okWide P w r b0 t v) (h : DataW.Trod enc P w base spare held t v d p) :
    ∃ (a : Option Addr) (cap : Nat) (fs : List (Int × Int)), v = .slice a fs.length cap ∧ fs.length ≤ cap ∧ cap ≤ maxLen ∧ PairsAt w a fs ∧ ∀ x ∈ fs, (Lit.int .i64 x.1).wf = true ∧ (Lit.int .i64 x.2).wf = true := by
  obtain ⟨a, len, cap, rfl⟩ := Go.WideShapes.okWide_slice ht hv
  obtain ⟨fuel, hf⟩ := h
  rcases Go.Deep.open_slice_pairs ht he ce o0 o1 c0 c1 hf with ⟨h1, _⟩ | ⟨a', len', cap', m, n, V0, V1, D0, D1, P0, P1, h1, _, hl, hm, hmm, _, hx⟩
  · simp [Value.cells] at h1
    obtain ⟨rfl, rfl, rfl⟩ := h1
    exact ⟨none, 0, [], rfl, by simp, Nat.zero_le _, fun i hi => (by simp at hi), fun x hx => (by simp at hx)⟩
  · simp [Value.cells] at h1
    obtain ⟨rfl, rfl, rfl⟩ := h1
    have hlm : len ≤ m := by rw [hmm]; split <;> omega
    have key : ∀ i, i < m → ∃ q : Int × Int, V0 i = .int .i64 q.1 ∧ V1 i = .int .i64 q.2 ∧ (Lit.int .i64 q.1).wf = true ∧ (Lit.int .i64 q.2).wf = true := fun i hi => by
      obtain ⟨_, _, g0, g1⟩ := hx i hi
      obtain ⟨x0, e0, _, w0⟩ := DataW.trod_int t0 g0
      obtain ⟨x1, e1, _, w1⟩ := DataW.trod_int t1 g1
      simp at e0 e1
      exact ⟨(x0, x1), e0, e1, w0, w1⟩
    obtain ⟨q, hq⟩ := Go.Deep.choose_lt key
    refine ⟨some a', cap, (List.range len).map q, by simp, by simpa using hl, hm, fun i hi => ?_, fun x hx' => ?_⟩
    · have hi' : i < len := by simpa using hi
      obtain ⟨g0, g1, _, _⟩ := hx i (by omega)
      obtain ⟨e0, e1, _, _⟩ := hq i (by omega)
      rw [e0] at g0; rw [e1] at g1
      obtain ⟨b, o, sp⟩ := a'
      have hsp : sp = none := by simpa [Addr.add] using addr_none (hx 0 (by omega)).1
      subst hsp
      have g0' : w.cell? ⟨b, o + i * 2, none⟩ = some (.int .i64 (q i).1) := by
        have := g0
        unfold Addr.add at this
        split at this <;> simp_all
      have g1' : w.cell? ⟨b, o + i * 2 + 1, none⟩ = some (.int .i64 (q i).2) := by
        have := g1
        unfold Addr.add at this
        split at this <;> simp_all [Nat.add_assoc]
      exact ⟨b, o, rfl, cell_lt g0', by simpa using g0', by simpa using g1'⟩
    · obtain ⟨i, hi, rfl⟩ := List.mem_map.1 hx'
      obtain ⟨_, _, h3, h4⟩ := hq i (by have := List.mem_range.1 hi; omega)
      exact ⟨h3, h4⟩
theorem op_ints {e : TypeId} {k : IntKind} (ht : P.underlying t = some (.slice e)) (he : P.underlying e = some (.int k)) (hc : P.cellsOf e = 1) (hv : Value.okWide P w r b0 t v) (h : DataW.Trod enc P w base spare held t v d p) :
    ∃ (a : Option Addr) (cap : Nat) (zs : List Int), v = .slice a zs.length cap ∧ zs.length ≤ cap ∧ cap ≤ maxLen ∧ (∀ i (_ : i < zs.length), ∃ b o, a = some ⟨b, o, none⟩ ∧ b < w.heap.size ∧ w.cell? ⟨b, o + i, none⟩ = some (.int k zs[i])) ∧ ∀ x ∈ zs, (Lit.int k x).wf = true := by
  obtain ⟨a, len, cap, rfl⟩ := Go.WideShapes.okWide_slice ht hv
  obtain ⟨fuel, hf⟩ := h
  rcases Go.ChangeShapes.open_ints ht he hc hf with ⟨h1, _⟩ | ⟨a', len', cap', zs, h1, _, hl, hm, hz, _, hcell, hwz⟩
  · simp [Value.cells] at h1
    obtain ⟨rfl, rfl, rfl⟩ := h1
    exact ⟨none, 0, [], rfl, by simp, Nat.zero_le _, fun i hi => (by simp at hi), fun x hx => (by simp at hx)⟩
  · simp [Value.cells] at h1
    obtain ⟨rfl, rfl, rfl⟩ := h1
    have hlz : len ≤ zs.length := by rw [hz]; split <;> omega
    refine ⟨some a', cap, zs.take len, by simp [hlz], by simp; omega, hm, fun i hi => ?_, fun x hx => hwz x (List.mem_of_mem_take hx)⟩
    have hi' : i < len := by simp at hi; omega
    have g0 := hcell i (by omega)
    obtain ⟨b, o, sp⟩ := a'
    have hsp : sp = none := by simpa [Addr.add] using addr_none (hcell 0 (by omega))
    subst hsp
    have e1 : (⟨b, o, none⟩ : Addr).add i = ⟨b, o + i, none⟩ := by unfold Addr.add; split <;> simp_all
    have hiz : i < zs.length := by omega
    have e2 : zs.getD i 0 = (zs.take len)[i] := by rw [List.getElem_take]; simp [List.getD, hiz]
    rw [e1, e2] at g0
    exact ⟨b, o, rfl, cell_lt g0, g0⟩
end
end Go.Proofs.Ytpjlihkpnhamlaa
