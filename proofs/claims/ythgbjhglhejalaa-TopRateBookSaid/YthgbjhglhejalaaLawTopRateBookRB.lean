/- The law TopRateBook holds: a clock that is regulated as Act says, visit by visit, gains at the end from noon to noon what its true rate says, and that lies within the limit, at all inputs; no further conditions. -/
import Derived.Test.YthgbjhglhejalaaRows
import Derived.Test.YthgbjhglhejalaaRBEvTopRateBook
import Derived.Test.YthgbjhglhejalaaRBSymO
import Derived.Test.YthgbjhglhejalaaChecked
import Derived.ProofKit
import Derived.ShutString
import Derived.ChangeOld
set_option linter.unusedSimpArgs false
set_option linter.unusedVariables false
namespace Go.Proofs.Ythgbjhglhejalaa.Sy
open Go.ChangeShapes Go.WideShapes Go.ChangeAt Go.RowKit

theorem topRateBook_op5 : Opens Try.prog 5 1 (fun x : Int => [D.v (.int .u8 x)]) (fun x => (Lit.int .u8 x).wf = true) := opens_int Try.underlying5 (by kernel_rfl)
theorem topRateBook_op22 : Opens Try.prog 22 2 (fun x : Int × Int => [D.v (.int .u8 x.1), D.v (.int .u8 x.2)]) (fun x => (Lit.int .u8 x.1).wf = true ∧ (Lit.int .u8 x.2).wf = true) := (opens_array (m := 2) (s := 1) Try.underlying22 (by kernel_rfl) (by kernel_rfl) (parts_cons topRateBook_op5 (parts_cons topRateBook_op5 parts_nil))).map (fun p => (p.1, p.2.1)) (fun _ => rfl) (fun p h => ⟨h.1, h.2.1⟩)
theorem topRateBook_op23 : Opens Try.prog 23 1 (fun x : (List Int) => [D.s 1 (List.map (fun el5 : Int => [D.v (.int .u8 el5)]) x)]) (fun x => ((x).length ≤ maxLen ∧ ∀ el5 ∈ x, (Lit.int .u8 el5).wf = true)) := opens_slice Try.underlying23 (by kernel_rfl) (by decide) topRateBook_op5
theorem topRateBook_own : ownKnob Try.prog.godebug = none := by kernel_rfl
theorem topRateBook_laid : laidOutB Try.prog = true := by kernel_rfl
set_option maxRecDepth 100000 in
set_option maxHeartbeats 1000000 in
theorem topRateBook_lifted (os : Os) (started : os.Started) (H : Type) (enc : TypeId × Value → H) :
    ReturnsInHanded {} Try.checked os 3 .any (Rows.topRateBookSpec.pre6 enc Try.prog Try.f3 Rows.topRateBookRow.domain false) (Rows.topRateBookSpec.post enc Try.prog Try.f3 false true false false) := by
  refine returnsInHanded_of_change (C := Try.checked) topRateBook_own started (by kernel_rfl) Try.func3
    (ChangeSpec.witness6 (enc := enc) (C := Try.checked) false ⟨#[], #[.agg #[.int .u8 0, .int .u8 0], .slice none 0 0], []⟩ 8 (by kernel_rfl) (by kernel_rfl) (by kernel_rfl) (by kernel_rfl)) ?_
  intro W base args ds gs before hval0 hW hcnd _
  have hval : ∀ (j : Nat) t v, Try.f3.params[j]? = some t → args[j]? = some v → Value.okWide Try.prog W .any base t v := hval0
  have hW' := hW
  obtain ⟨p, q, hA0, hV, rfl, hfz, hnd⟩ := hW
  have hA : DataW.TrodAll enc Try.prog W 0 (fun _ => true) true Try.f3.params.toList args.toList ds p := hA0
  rw [Try.params3] at hA hval
  obtain ⟨v0, vs0, d0, ds0, p0, q0, hargs, rfl, rfl, h0, r0⟩ := trodAll_cons hA
  obtain ⟨v1, vs1, d1, ds1, p1, q1, rfl, rfl, rfl, h1, r1⟩ := trodAll_cons r0
  obtain ⟨rfl, rfl, rfl⟩ := trodAll_nil r1
  obtain rfl : args = #[v0, v1] := by cases args; simp_all
  obtain ⟨rfl, rfl⟩ := trodVars_none hV
  have k0 := h0
  have lt0 : ∀ x ∈ p0, x.block < W.heap.size := by obtain ⟨m, hm⟩ := k0; exact DataW.trod_lt m _ _ _ hm
  have k1 := h1
  have lt1 : ∀ x ∈ p1, x.block < W.heap.size := by obtain ⟨m, hm⟩ := k1; exact DataW.trod_lt m _ _ _ hm
  obtain ⟨a0, cs0, w0, rfl, ok0⟩ := arg_agg (agg_array Try.underlying22 (hval 0 22 v0 rfl rfl)) topRateBook_op22 h0
  obtain ⟨u0_0, cs0_0, rfl, e0_0, ok0_0⟩ := okL_cons ok0
  cases e0_0
  obtain ⟨u0_1, cs0_1, rfl, e0_1, ok0_1⟩ := okL_cons ok0_0
  cases e0_1
  cases okL_nil ok0_1
  obtain ⟨a1, w1, rd1⟩ := arg_slice Try.underlying23 topRateBook_op23 (hval 1 23 v1 rfl rfl) h1
  obtain ⟨b1, n1, c1, rfl⟩ := reads_slice rd1
  clear hA0 hval0
  obtain ⟨fuel, hev⟩ := topRateBook_evx w0 w1
  refine (FC.run (fc_top_TopRateBook hev) (fun k => if k = 0 then (.slice b1 n1 c1) else .bool false) rfl (fun y hy => ?_)).mono fun e W' ⟨he, bel⟩ => ?_
  · simp only [List.mem_cons, List.not_mem_nil, or_false] at hy
    rcases hy with rfl
    · exact rd1
  subst he
  exact ⟨_, rfl, _, _, _, [], _, [], hW', trodAll_mk1 (shut_bool Try.underlying4 _), (trodAll_cons_mk (Below.trod topRateBook_laid (by kernel_rfl) (of_decide_eq_true (by kernel_rfl)) k0 bel lt0) (trodAll_cons_mk (Below.trod topRateBook_laid (by kernel_rfl) (of_decide_eq_true (by kernel_rfl)) k1 bel lt1) trodAll_mk0)), rfl, bel.frame _, fun h => by cases h⟩

theorem topRateBook_q1 : Try.checked.prog.funcNamed Rows.topRateBookRow.func = some 3 := by kernel_rfl
theorem topRateBook_and {a b : Bool} (ha : a = true) (hb : b = true) : (a && b) = true := by rw [ha, hb]; rfl
set_option maxHeartbeats 4000000 in
theorem topRateBook_q2 : joinedFacts Try.checked.prog 3 Try.f3 Rows.topRateBookSpec Rows.topRateBookRow = true := by
  unfold joinedFacts
  exact topRateBook_and (topRateBook_and (topRateBook_and (topRateBook_and (topRateBook_and (topRateBook_and (topRateBook_and (topRateBook_and (topRateBook_and (topRateBook_and (topRateBook_and (topRateBook_and (topRateBook_and (topRateBook_and (topRateBook_and (topRateBook_and (topRateBook_and (topRateBook_and (topRateBook_and (topRateBook_and (topRateBook_and (topRateBook_and (topRateBook_and (topRateBook_and (topRateBook_and (topRateBook_and (topRateBook_and (topRateBook_and (topRateBook_and (topRateBook_and (topRateBook_and (by as_aux_lemma => kernel_rfl) (by as_aux_lemma => kernel_rfl)) (by as_aux_lemma => kernel_rfl)) (by as_aux_lemma => kernel_rfl)) (by as_aux_lemma => kernel_rfl)) (by as_aux_lemma => kernel_rfl)) (by as_aux_lemma => kernel_rfl)) (by as_aux_lemma => kernel_rfl)) (by as_aux_lemma => kernel_rfl)) (by as_aux_lemma => kernel_rfl)) (by as_aux_lemma => kernel_rfl)) (by as_aux_lemma => kernel_rfl)) (by as_aux_lemma => kernel_rfl)) (by as_aux_lemma => kernel_rfl)) (by as_aux_lemma => kernel_rfl)) (by as_aux_lemma => kernel_rfl)) (by as_aux_lemma => kernel_rfl)) (by as_aux_lemma => kernel_rfl)) (by as_aux_lemma => kernel_rfl)) (by as_aux_lemma => kernel_rfl)) (by as_aux_lemma => kernel_rfl)) (by as_aux_lemma => kernel_rfl)) (by as_aux_lemma => kernel_rfl)) (by as_aux_lemma => kernel_rfl)) (by as_aux_lemma => kernel_rfl)) (by as_aux_lemma => kernel_rfl)) (by as_aux_lemma => kernel_rfl)) (by as_aux_lemma => kernel_rfl)) (by as_aux_lemma => kernel_rfl)) (by as_aux_lemma => kernel_rfl)) (by as_aux_lemma => kernel_rfl)) (by as_aux_lemma => kernel_rfl)
theorem topRateBook_q3 : Try.f3.isInstance Try.checked.prog Rows.topRateBookRow.origin Rows.topRateBookRow.targs := (of_decide_eq_true (by kernel_rfl))
theorem topRateBook_q4 : Try.f3.isWrapper Try.checked.prog Rows.topRateBookRow.wrapper Rows.topRateBookRow.mainSum := (by unfold Func.isWrapper; first | (rw [if_pos (by decide +kernel)]; kernel_rfl) | (rw [if_neg (by decide +kernel)]; exact ⟨rfl, rfl⟩))
theorem topRateBook_q5 : ∀ os : Os, os.Started → ∀ (H : Type) (enc : TypeId × Value → H), (∀ a b, enc a = enc b → a = b) →
    ReturnsInHanded Rows.topRateBookRow.assume Try.checked os 3 .any (Rows.topRateBookRow.pre enc Try.checked.prog Try.f3 (OpenSpec.ofChange Rows.topRateBookSpec)) (Rows.topRateBookSpec.post enc Try.checked.prog Try.f3 Rows.topRateBookRow.apart Rows.topRateBookRow.fresh Rows.topRateBookRow.handsOn Rows.topRateBookRow.again) := fun os started H enc _ => topRateBook_lifted os started H enc
theorem topRateBook_said : Rows.TopRateBookSaid :=
  OpenClaim.holds_of_wide 3 Try.f3 rfl rfl rfl rfl rfl rfl rfl ⟨rfl, rfl, rfl, rfl, rfl⟩ rfl rfl rfl rfl rfl topRateBook_q1 Try.func3 topRateBook_q2 topRateBook_q3 topRateBook_q4 topRateBook_q5
end Go.Proofs.Ythgbjhglhejalaa.Sy
namespace Go.Proofs.Ythgbjhglhejalaa
theorem topRateBook_holds : Rows.TopRateBookSaid := Sy.topRateBook_said
#print axioms topRateBook_holds
end Go.Proofs.Ythgbjhglhejalaa
