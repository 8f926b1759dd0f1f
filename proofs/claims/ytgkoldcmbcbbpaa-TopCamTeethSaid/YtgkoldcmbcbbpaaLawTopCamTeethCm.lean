/- A wheel and its pinion, as cams: the marks of both are at the top together again just when the wheel has made as many turns as its cycle says, for all wheels and pinions with 6 to 100 teeth and all steps. -/
import Derived.Test.YtgkoldcmbcbbpaaRows
import Derived.Test.YtgkoldcmbcbbpaaCmEvTopCamTeeth
import Derived.Test.YtgkoldcmbcbbpaaCmSymO
import Derived.Test.YtgkoldcmbcbbpaaChecked
import Derived.ProofKit
import Derived.ShutString
import Derived.ChangeOld
set_option linter.unusedSimpArgs false
set_option linter.unusedVariables false
namespace Go.Proofs.Ytgkoldcmbcbbpaa.Sy
open Go.ChangeShapes Go.WideShapes Go.ChangeAt Go.RowKit

theorem topCamTeeth_op5 : Opens Try.prog 5 1 (fun x : Int => [D.v (.int .u8 x)]) (fun x => (Lit.int .u8 x).wf = true) := opens_int Try.underlying5 (by kernel_rfl)
theorem topCamTeeth_op45 : Opens Try.prog 45 2 (fun x : Int × Int => [D.v (.int .u8 x.1), D.v (.int .u8 x.2)]) (fun x => (Lit.int .u8 x.1).wf = true ∧ (Lit.int .u8 x.2).wf = true) := (opens_array (m := 2) (s := 1) Try.underlying45 (by kernel_rfl) (by kernel_rfl) (parts_cons topCamTeeth_op5 (parts_cons topCamTeeth_op5 parts_nil))).map (fun p => (p.1, p.2.1)) (fun _ => rfl) (fun p h => ⟨h.1, h.2.1⟩)
theorem topCamTeeth_own : ownKnob Try.prog.godebug = none := by kernel_rfl
theorem topCamTeeth_laid : laidOutB Try.prog = true := by kernel_rfl
set_option maxRecDepth 100000 in
set_option maxHeartbeats 1000000 in
theorem topCamTeeth_lifted (os : Os) (started : os.Started) (H : Type) (enc : TypeId × Value → H) :
    ReturnsInHanded {} Try.checked os 5 .any (Rows.topCamTeethSpec.pre6 enc Try.prog Try.f5 Rows.topCamTeethRow.domain false) (Rows.topCamTeethSpec.post enc Try.prog Try.f5 false true false false) := by
  refine returnsInHanded_of_change (C := Try.checked) topCamTeeth_own started (by kernel_rfl) Try.func5
    (ChangeSpec.witness6 (enc := enc) (C := Try.checked) false ⟨#[], #[.agg #[.int .u8 0, .int .u8 0], .int .u16 0], []⟩ 8 (by kernel_rfl) (by kernel_rfl) (by kernel_rfl) (by kernel_rfl)) ?_
  intro W base args ds gs before hval0 hW hcnd _
  have hval : ∀ (j : Nat) t v, Try.f5.params[j]? = some t → args[j]? = some v → Value.okWide Try.prog W .any base t v := hval0
  have hW' := hW
  obtain ⟨p, q, hA0, hV, rfl, hfz, hnd⟩ := hW
  have hA : DataW.TrodAll enc Try.prog W 0 (fun _ => true) true Try.f5.params.toList args.toList ds p := hA0
  rw [Try.params5] at hA hval
  obtain ⟨v0, vs0, d0, ds0, p0, q0, hargs, rfl, rfl, h0, r0⟩ := trodAll_cons hA
  obtain ⟨v1, vs1, d1, ds1, p1, q1, rfl, rfl, rfl, h1, r1⟩ := trodAll_cons r0
  obtain ⟨rfl, rfl, rfl⟩ := trodAll_nil r1
  obtain rfl : args = #[v0, v1] := by cases args; simp_all
  obtain ⟨rfl, rfl⟩ := trodVars_none hV
  have k0 := h0
  have lt0 : ∀ x ∈ p0, x.block < W.heap.size := by obtain ⟨m, hm⟩ := k0; exact DataW.trod_lt m _ _ _ hm
  have k1 := h1
  have lt1 : ∀ x ∈ p1, x.block < W.heap.size := by obtain ⟨m, hm⟩ := k1; exact DataW.trod_lt m _ _ _ hm
  obtain ⟨a0, cs0, w0, rfl, ok0⟩ := arg_agg (agg_array Try.underlying45 (hval 0 45 v0 rfl rfl)) topCamTeeth_op45 h0
  obtain ⟨u0_0, cs0_0, rfl, e0_0, ok0_0⟩ := okL_cons ok0
  cases e0_0
  obtain ⟨u0_1, cs0_1, rfl, e0_1, ok0_1⟩ := okL_cons ok0_0
  cases e0_1
  cases okL_nil ok0_1
  obtain ⟨a1, rfl, _, _, w1⟩ := open_int Try.underlying46 (hval 1 46 v1 rfl rfl) h1
  clear hA0 hval0
  obtain ⟨fuel, hev⟩ := topCamTeeth_evx w0 w1
  refine (FC.run (fc_top_TopCamTeeth hev) (fun k => .bool false) rfl (fun y hy => ?_)).mono fun e W' ⟨he, bel⟩ => ?_
  · cases hy
  subst he
  exact ⟨_, rfl, _, _, _, [], _, [], hW', trodAll_mk1 (shut_bool Try.underlying4 _), (trodAll_cons_mk (Below.trod topCamTeeth_laid (by kernel_rfl) (of_decide_eq_true (by kernel_rfl)) k0 bel lt0) (trodAll_cons_mk (Below.trod topCamTeeth_laid (by kernel_rfl) (of_decide_eq_true (by kernel_rfl)) k1 bel lt1) trodAll_mk0)), rfl, bel.frame _, fun h => by cases h⟩

theorem topCamTeeth_q1 : Try.checked.prog.funcNamed Rows.topCamTeethRow.func = some 5 := by kernel_rfl
theorem topCamTeeth_and {a b : Bool} (ha : a = true) (hb : b = true) : (a && b) = true := by rw [ha, hb]; rfl
set_option maxHeartbeats 4000000 in
theorem topCamTeeth_q2 : joinedFacts Try.checked.prog 5 Try.f5 Rows.topCamTeethSpec Rows.topCamTeethRow = true := by
  unfold joinedFacts
  exact topCamTeeth_and (topCamTeeth_and (topCamTeeth_and (topCamTeeth_and (topCamTeeth_and (topCamTeeth_and (topCamTeeth_and (topCamTeeth_and (topCamTeeth_and (topCamTeeth_and (topCamTeeth_and (topCamTeeth_and (topCamTeeth_and (topCamTeeth_and (topCamTeeth_and (topCamTeeth_and (topCamTeeth_and (topCamTeeth_and (topCamTeeth_and (topCamTeeth_and (topCamTeeth_and (topCamTeeth_and (topCamTeeth_and (topCamTeeth_and (topCamTeeth_and (topCamTeeth_and (topCamTeeth_and (topCamTeeth_and (topCamTeeth_and (topCamTeeth_and (topCamTeeth_and (by as_aux_lemma => kernel_rfl) (by as_aux_lemma => kernel_rfl)) (by as_aux_lemma => kernel_rfl)) (by as_aux_lemma => kernel_rfl)) (by as_aux_lemma => kernel_rfl)) (by as_aux_lemma => kernel_rfl)) (by as_aux_lemma => kernel_rfl)) (by as_aux_lemma => kernel_rfl)) (by as_aux_lemma => kernel_rfl)) (by as_aux_lemma => kernel_rfl)) (by as_aux_lemma => kernel_rfl)) (by as_aux_lemma => kernel_rfl)) (by as_aux_lemma => kernel_rfl)) (by as_aux_lemma => kernel_rfl)) (by as_aux_lemma => kernel_rfl)) (by as_aux_lemma => kernel_rfl)) (by as_aux_lemma => kernel_rfl)) (by as_aux_lemma => kernel_rfl)) (by as_aux_lemma => kernel_rfl)) (by as_aux_lemma => kernel_rfl)) (by as_aux_lemma => kernel_rfl)) (by as_aux_lemma => kernel_rfl)) (by as_aux_lemma => kernel_rfl)) (by as_aux_lemma => kernel_rfl)) (by as_aux_lemma => kernel_rfl)) (by as_aux_lemma => kernel_rfl)) (by as_aux_lemma => kernel_rfl)) (by as_aux_lemma => kernel_rfl)) (by as_aux_lemma => kernel_rfl)) (by as_aux_lemma => kernel_rfl)) (by as_aux_lemma => kernel_rfl)) (by as_aux_lemma => kernel_rfl)
theorem topCamTeeth_q3 : Try.f5.isInstance Try.checked.prog Rows.topCamTeethRow.origin Rows.topCamTeethRow.targs := (of_decide_eq_true (by kernel_rfl))
theorem topCamTeeth_q4 : Try.f5.isWrapper Try.checked.prog Rows.topCamTeethRow.wrapper Rows.topCamTeethRow.mainSum := (by unfold Func.isWrapper; first | (rw [if_pos (by decide +kernel)]; kernel_rfl) | (rw [if_neg (by decide +kernel)]; exact ⟨rfl, rfl⟩))
theorem topCamTeeth_q5 : ∀ os : Os, os.Started → ∀ (H : Type) (enc : TypeId × Value → H), (∀ a b, enc a = enc b → a = b) →
    ReturnsInHanded Rows.topCamTeethRow.assume Try.checked os 5 .any (Rows.topCamTeethRow.pre enc Try.checked.prog Try.f5 (OpenSpec.ofChange Rows.topCamTeethSpec)) (Rows.topCamTeethSpec.post enc Try.checked.prog Try.f5 Rows.topCamTeethRow.apart Rows.topCamTeethRow.fresh Rows.topCamTeethRow.handsOn Rows.topCamTeethRow.again) := fun os started H enc _ => topCamTeeth_lifted os started H enc
theorem topCamTeeth_said : Rows.TopCamTeethSaid :=
  OpenClaim.holds_of_wide 5 Try.f5 rfl rfl rfl rfl rfl rfl rfl ⟨rfl, rfl, rfl, rfl, rfl⟩ rfl rfl rfl rfl rfl topCamTeeth_q1 Try.func5 topCamTeeth_q2 topCamTeeth_q3 topCamTeeth_q4 topCamTeeth_q5
end Go.Proofs.Ytgkoldcmbcbbpaa.Sy
namespace Go.Proofs.Ytgkoldcmbcbbpaa
theorem topCamTeeth_holds : Rows.TopCamTeethSaid := Sy.topCamTeeth_said
#print axioms topCamTeeth_holds
end Go.Proofs.Ytgkoldcmbcbbpaa
