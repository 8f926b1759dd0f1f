/- For every pattern, store, base and weather TopRodParts returns true, and changes none of its arguments. -/
import Derived.Test.YtniblgokhibmfaaRows
import Derived.Test.YtniblgokhibmfaaRpEvTopRodParts
import Derived.Test.YtniblgokhibmfaaRpSymO
import Derived.Test.YtniblgokhibmfaaChecked
import Derived.ProofKit
import Derived.ShutString
import Derived.ChangeOld
set_option linter.unusedSimpArgs false
set_option linter.unusedVariables false
namespace Go.Proofs.Ytniblgokhibmfaa.Sy
open Go.ChangeShapes Go.WideShapes Go.ChangeAt Go.RowKit

theorem topRodParts_op5 : Opens Try.prog 5 1 (fun x : Int => [D.v (.int .u8 x)]) (fun x => (Lit.int .u8 x).wf = true) := opens_int Try.underlying5 (by kernel_rfl)
theorem topRodParts_op28 : Opens Try.prog 28 6 (fun x : Int × Int × Int × Int × Int × Int => [D.v (.int .u8 x.1), D.v (.int .u8 x.2.1), D.v (.int .u8 x.2.2.1), D.v (.int .u8 x.2.2.2.1), D.v (.int .u8 x.2.2.2.2.1), D.v (.int .u8 x.2.2.2.2.2)]) (fun x => (Lit.int .u8 x.1).wf = true ∧ (Lit.int .u8 x.2.1).wf = true ∧ (Lit.int .u8 x.2.2.1).wf = true ∧ (Lit.int .u8 x.2.2.2.1).wf = true ∧ (Lit.int .u8 x.2.2.2.2.1).wf = true ∧ (Lit.int .u8 x.2.2.2.2.2).wf = true) := (opens_array (m := 6) (s := 1) Try.underlying28 (by kernel_rfl) (by kernel_rfl) (parts_cons topRodParts_op5 (parts_cons topRodParts_op5 (parts_cons topRodParts_op5 (parts_cons topRodParts_op5 (parts_cons topRodParts_op5 (parts_cons topRodParts_op5 parts_nil))))))).map (fun p => (p.1, p.2.1, p.2.2.1, p.2.2.2.1, p.2.2.2.2.1, p.2.2.2.2.2.1)) (fun _ => rfl) (fun p h => ⟨h.1, h.2.1, h.2.2.1, h.2.2.2.1, h.2.2.2.2.1, h.2.2.2.2.2.1⟩)
theorem topRodParts_op24 : Opens Try.prog 24 4 (fun x : Int × Int × Int × Int => [D.v (.int .u8 x.1), D.v (.int .u8 x.2.1), D.v (.int .u8 x.2.2.1), D.v (.int .u8 x.2.2.2)]) (fun x => (Lit.int .u8 x.1).wf = true ∧ (Lit.int .u8 x.2.1).wf = true ∧ (Lit.int .u8 x.2.2.1).wf = true ∧ (Lit.int .u8 x.2.2.2).wf = true) := (opens_array (m := 4) (s := 1) Try.underlying24 (by kernel_rfl) (by kernel_rfl) (parts_cons topRodParts_op5 (parts_cons topRodParts_op5 (parts_cons topRodParts_op5 (parts_cons topRodParts_op5 parts_nil))))).map (fun p => (p.1, p.2.1, p.2.2.1, p.2.2.2.1)) (fun _ => rfl) (fun p h => ⟨h.1, h.2.1, h.2.2.1, h.2.2.2.1⟩)
theorem topRodParts_own : ownKnob Try.prog.godebug = none := by kernel_rfl
theorem topRodParts_laid : laidOutB Try.prog = true := by kernel_rfl
set_option maxRecDepth 100000 in
set_option maxHeartbeats 1000000 in
theorem topRodParts_lifted (os : Os) (started : os.Started) (H : Type) (enc : TypeId × Value → H) :
    ReturnsInHanded {} Try.checked os 4 .any (Rows.topRodPartsSpec.pre6 enc Try.prog Try.f4 Rows.topRodPartsRow.domain false) (Rows.topRodPartsSpec.post enc Try.prog Try.f4 false true false false) := by
  refine returnsInHanded_of_change (C := Try.checked) topRodParts_own started (by kernel_rfl) Try.func4
    (ChangeSpec.witness6 (enc := enc) (C := Try.checked) false ⟨#[], #[.agg #[.int .u8 0, .int .u8 0, .int .u8 0, .int .u8 0, .int .u8 0, .int .u8 0], .int .i16 0, .agg #[.int .u8 0, .int .u8 0, .int .u8 0, .int .u8 0]], []⟩ 8 (by kernel_rfl) (by kernel_rfl) (by kernel_rfl) (by kernel_rfl)) ?_
  intro W base args ds gs before hval0 hW hcnd _
  have hval : ∀ (j : Nat) t v, Try.f4.params[j]? = some t → args[j]? = some v → Value.okWide Try.prog W .any base t v := hval0
  have hW' := hW
  obtain ⟨p, q, hA0, hV, rfl, hfz, hnd⟩ := hW
  have hA : DataW.TrodAll enc Try.prog W 0 (fun _ => true) true Try.f4.params.toList args.toList ds p := hA0
  rw [Try.params4] at hA hval
  obtain ⟨v0, vs0, d0, ds0, p0, q0, hargs, rfl, rfl, h0, r0⟩ := trodAll_cons hA
  obtain ⟨v1, vs1, d1, ds1, p1, q1, rfl, rfl, rfl, h1, r1⟩ := trodAll_cons r0
  obtain ⟨v2, vs2, d2, ds2, p2, q2, rfl, rfl, rfl, h2, r2⟩ := trodAll_cons r1
  obtain ⟨rfl, rfl, rfl⟩ := trodAll_nil r2
  obtain rfl : args = #[v0, v1, v2] := by cases args; simp_all
  obtain ⟨rfl, rfl⟩ := trodVars_none hV
  have k0 := h0
  have lt0 : ∀ x ∈ p0, x.block < W.heap.size := by obtain ⟨m, hm⟩ := k0; exact DataW.trod_lt m _ _ _ hm
  have k1 := h1
  have lt1 : ∀ x ∈ p1, x.block < W.heap.size := by obtain ⟨m, hm⟩ := k1; exact DataW.trod_lt m _ _ _ hm
  have k2 := h2
  have lt2 : ∀ x ∈ p2, x.block < W.heap.size := by obtain ⟨m, hm⟩ := k2; exact DataW.trod_lt m _ _ _ hm
  obtain ⟨a0, cs0, w0, rfl, ok0⟩ := arg_agg (agg_array Try.underlying28 (hval 0 28 v0 rfl rfl)) topRodParts_op28 h0
  obtain ⟨u0_0, cs0_0, rfl, e0_0, ok0_0⟩ := okL_cons ok0
  cases e0_0
  obtain ⟨u0_1, cs0_1, rfl, e0_1, ok0_1⟩ := okL_cons ok0_0
  cases e0_1
  obtain ⟨u0_2, cs0_2, rfl, e0_2, ok0_2⟩ := okL_cons ok0_1
  cases e0_2
  obtain ⟨u0_3, cs0_3, rfl, e0_3, ok0_3⟩ := okL_cons ok0_2
  cases e0_3
  obtain ⟨u0_4, cs0_4, rfl, e0_4, ok0_4⟩ := okL_cons ok0_3
  cases e0_4
  obtain ⟨u0_5, cs0_5, rfl, e0_5, ok0_5⟩ := okL_cons ok0_4
  cases e0_5
  cases okL_nil ok0_5
  obtain ⟨a1, rfl, _, _, w1⟩ := open_int Try.underlying62 (hval 1 62 v1 rfl rfl) h1
  obtain ⟨a2, cs2, w2, rfl, ok2⟩ := arg_agg (agg_array Try.underlying24 (hval 2 24 v2 rfl rfl)) topRodParts_op24 h2
  obtain ⟨u2_0, cs2_0, rfl, e2_0, ok2_0⟩ := okL_cons ok2
  cases e2_0
  obtain ⟨u2_1, cs2_1, rfl, e2_1, ok2_1⟩ := okL_cons ok2_0
  cases e2_1
  obtain ⟨u2_2, cs2_2, rfl, e2_2, ok2_2⟩ := okL_cons ok2_1
  cases e2_2
  obtain ⟨u2_3, cs2_3, rfl, e2_3, ok2_3⟩ := okL_cons ok2_2
  cases e2_3
  cases okL_nil ok2_3
  clear hA0 hval0
  obtain ⟨fuel, hev⟩ := topRodParts_evx w0 w1 w2
  refine (FC.run (fc_top_TopRodParts hev) (fun k => .bool false) rfl (fun y hy => ?_)).mono fun e W' ⟨he, bel⟩ => ?_
  · cases hy
  subst he
  exact ⟨_, rfl, _, _, _, [], _, [], hW', trodAll_mk1 (shut_bool Try.underlying4 _), (trodAll_cons_mk (Below.trod topRodParts_laid (by kernel_rfl) (of_decide_eq_true (by kernel_rfl)) k0 bel lt0) (trodAll_cons_mk (Below.trod topRodParts_laid (by kernel_rfl) (of_decide_eq_true (by kernel_rfl)) k1 bel lt1) (trodAll_cons_mk (Below.trod topRodParts_laid (by kernel_rfl) (of_decide_eq_true (by kernel_rfl)) k2 bel lt2) trodAll_mk0))), rfl, bel.frame _, fun h => by cases h⟩

theorem topRodParts_q1 : Try.checked.prog.funcNamed Rows.topRodPartsRow.func = some 4 := by kernel_rfl
theorem topRodParts_and {a b : Bool} (ha : a = true) (hb : b = true) : (a && b) = true := by rw [ha, hb]; rfl
set_option maxHeartbeats 4000000 in
theorem topRodParts_q2 : joinedFacts Try.checked.prog 4 Try.f4 Rows.topRodPartsSpec Rows.topRodPartsRow = true := by
  unfold joinedFacts
  exact topRodParts_and (topRodParts_and (topRodParts_and (topRodParts_and (topRodParts_and (topRodParts_and (topRodParts_and (topRodParts_and (topRodParts_and (topRodParts_and (topRodParts_and (topRodParts_and (topRodParts_and (topRodParts_and (topRodParts_and (topRodParts_and (topRodParts_and (topRodParts_and (topRodParts_and (topRodParts_and (topRodParts_and (topRodParts_and (topRodParts_and (topRodParts_and (topRodParts_and (topRodParts_and (topRodParts_and (topRodParts_and (topRodParts_and (topRodParts_and (topRodParts_and (by as_aux_lemma => kernel_rfl) (by as_aux_lemma => kernel_rfl)) (by as_aux_lemma => kernel_rfl)) (by as_aux_lemma => kernel_rfl)) (by as_aux_lemma => kernel_rfl)) (by as_aux_lemma => kernel_rfl)) (by as_aux_lemma => kernel_rfl)) (by as_aux_lemma => kernel_rfl)) (by as_aux_lemma => kernel_rfl)) (by as_aux_lemma => kernel_rfl)) (by as_aux_lemma => kernel_rfl)) (by as_aux_lemma => kernel_rfl)) (by as_aux_lemma => kernel_rfl)) (by as_aux_lemma => kernel_rfl)) (by as_aux_lemma => kernel_rfl)) (by as_aux_lemma => kernel_rfl)) (by as_aux_lemma => kernel_rfl)) (by as_aux_lemma => kernel_rfl)) (by as_aux_lemma => kernel_rfl)) (by as_aux_lemma => kernel_rfl)) (by as_aux_lemma => kernel_rfl)) (by as_aux_lemma => kernel_rfl)) (by as_aux_lemma => kernel_rfl)) (by as_aux_lemma => kernel_rfl)) (by as_aux_lemma => kernel_rfl)) (by as_aux_lemma => kernel_rfl)) (by as_aux_lemma => kernel_rfl)) (by as_aux_lemma => kernel_rfl)) (by as_aux_lemma => kernel_rfl)) (by as_aux_lemma => kernel_rfl)) (by as_aux_lemma => kernel_rfl)) (by as_aux_lemma => kernel_rfl)
theorem topRodParts_q3 : Try.f4.isInstance Try.checked.prog Rows.topRodPartsRow.origin Rows.topRodPartsRow.targs := (of_decide_eq_true (by kernel_rfl))
theorem topRodParts_q4 : Try.f4.isWrapper Try.checked.prog Rows.topRodPartsRow.wrapper Rows.topRodPartsRow.mainSum := (by unfold Func.isWrapper; first | (rw [if_pos (by decide +kernel)]; kernel_rfl) | (rw [if_neg (by decide +kernel)]; exact ⟨rfl, rfl⟩))
theorem topRodParts_q5 : ∀ os : Os, os.Started → ∀ (H : Type) (enc : TypeId × Value → H), (∀ a b, enc a = enc b → a = b) →
    ReturnsInHanded Rows.topRodPartsRow.assume Try.checked os 4 .any (Rows.topRodPartsRow.pre enc Try.checked.prog Try.f4 (OpenSpec.ofChange Rows.topRodPartsSpec)) (Rows.topRodPartsSpec.post enc Try.checked.prog Try.f4 Rows.topRodPartsRow.apart Rows.topRodPartsRow.fresh Rows.topRodPartsRow.handsOn Rows.topRodPartsRow.again) := fun os started H enc _ => topRodParts_lifted os started H enc
theorem topRodParts_said : Rows.TopRodPartsSaid :=
  OpenClaim.holds_of_wide 4 Try.f4 rfl rfl rfl rfl rfl rfl rfl ⟨rfl, rfl, rfl, rfl, rfl⟩ rfl rfl rfl rfl rfl topRodParts_q1 Try.func4 topRodParts_q2 topRodParts_q3 topRodParts_q4 topRodParts_q5
end Go.Proofs.Ytniblgokhibmfaa.Sy
namespace Go.Proofs.Ytniblgokhibmfaa
theorem topRodParts_holds : Rows.TopRodPartsSaid := Sy.topRodParts_said
#print axioms topRodParts_holds
end Go.Proofs.Ytniblgokhibmfaa
