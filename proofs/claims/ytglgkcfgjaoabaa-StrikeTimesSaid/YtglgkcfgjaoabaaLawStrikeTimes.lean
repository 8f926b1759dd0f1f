/- In time. -/
import Derived.Test.YtglgkcfgjaoabaaRows
import Derived.Test.YtglgkcfgjaoabaaEvStrikeTimes
import Derived.Test.YtglgkcfgjaoabaaSymO
import Derived.Test.YtglgkcfgjaoabaaChecked
import Derived.ProofKit
import Derived.ShutString
import Derived.ChangeOld
set_option linter.unusedSimpArgs false
set_option linter.unusedVariables false
namespace Go.Proofs.Ytglgkcfgjaoabaa.Sy
open Go.ChangeShapes Go.WideShapes Go.ChangeAt Go.RowKit

theorem strikeTimes_op5 : Opens Try.prog 5 1 (fun x : Int => [D.v (.int .u8 x)]) (fun x => (Lit.int .u8 x).wf = true) := opens_int Try.underlying5 (by kernel_rfl)
theorem strikeTimes_op62 : Opens Try.prog 62 2 (fun x : Int × Int => [D.v (.int .u8 x.1), D.v (.int .u8 x.2)]) (fun x => (Lit.int .u8 x.1).wf = true ∧ (Lit.int .u8 x.2).wf = true) := (opens_array (m := 2) (s := 1) Try.underlying62 (by kernel_rfl) (by kernel_rfl) (parts_cons strikeTimes_op5 (parts_cons strikeTimes_op5 parts_nil))).map (fun p => (p.1, p.2.1)) (fun _ => rfl) (fun p h => ⟨h.1, h.2.1⟩)
theorem strikeTimes_op4 : Opens Try.prog 4 1 (fun x : Bool => [D.v (.bool x)]) (fun x => True) := opens_bool Try.underlying4 (by kernel_rfl)
theorem strikeTimes_op64 : Opens Try.prog 64 3 (fun x : Bool × Int × Int => [D.v (.bool x.1), D.v (.int .u8 x.2.1), D.v (.int .u8 x.2.2)]) (fun x => True ∧ (Lit.int .u8 x.2.1).wf = true ∧ (Lit.int .u8 x.2.2).wf = true) := (opens_struct Try.underlying64 (by kernel_rfl) (by kernel_rfl) (parts_cons strikeTimes_op4 (parts_cons strikeTimes_op62 parts_nil))).map (fun p => (p.1, p.2.1.1, p.2.1.2)) (fun _ => rfl) (fun p h => ⟨h.1, h.2.1.1, h.2.1.2⟩)
theorem strikeTimes_op75 : Opens Try.prog 75 4 (fun x : Int × Int × Int × Int => [D.v (.int .u8 x.1), D.v (.int .u8 x.2.1), D.v (.int .u8 x.2.2.1), D.v (.int .u8 x.2.2.2)]) (fun x => (Lit.int .u8 x.1).wf = true ∧ (Lit.int .u8 x.2.1).wf = true ∧ (Lit.int .u8 x.2.2.1).wf = true ∧ (Lit.int .u8 x.2.2.2).wf = true) := (opens_array (m := 4) (s := 1) Try.underlying75 (by kernel_rfl) (by kernel_rfl) (parts_cons strikeTimes_op5 (parts_cons strikeTimes_op5 (parts_cons strikeTimes_op5 (parts_cons strikeTimes_op5 parts_nil))))).map (fun p => (p.1, p.2.1, p.2.2.1, p.2.2.2.1)) (fun _ => rfl) (fun p h => ⟨h.1, h.2.1, h.2.2.1, h.2.2.2.1⟩)
theorem strikeTimes_own : ownKnob Try.prog.godebug = none := by kernel_rfl
theorem strikeTimes_laid : laidOutB Try.prog = true := by kernel_rfl
set_option maxRecDepth 100000 in
set_option maxHeartbeats 1000000 in
theorem strikeTimes_lifted (os : Os) (started : os.Started) (H : Type) (enc : TypeId × Value → H) :
    ReturnsInHanded {} Try.checked os 9 .any (Rows.strikeTimesSpec.pre6 enc Try.prog Try.f9 Rows.strikeTimesRow.domain false) (Rows.strikeTimesSpec.post enc Try.prog Try.f9 false true false false) := by
  refine returnsInHanded_of_change (C := Try.checked) strikeTimes_own started (by kernel_rfl) Try.func9
    (ChangeSpec.witness6 (enc := enc) (C := Try.checked) false ⟨#[], #[.agg #[.bool false, .int .u8 0, .int .u8 0], .agg #[.int .u8 0, .int .u8 0, .int .u8 0, .int .u8 0]], []⟩ 8 (by kernel_rfl) (by kernel_rfl) (by kernel_rfl) (by kernel_rfl)) ?_
  intro W base args ds gs before hval0 hW hcnd _
  have hval : ∀ (j : Nat) t v, Try.f9.params[j]? = some t → args[j]? = some v → Value.okWide Try.prog W .any base t v := hval0
  have hW' := hW
  obtain ⟨p, q, hA0, hV, rfl, hfz, hnd⟩ := hW
  have hA : DataW.TrodAll enc Try.prog W 0 (fun _ => true) true Try.f9.params.toList args.toList ds p := hA0
  rw [Try.params9] at hA hval
  obtain ⟨v0, vs0, d0, ds0, p0, q0, hargs, rfl, rfl, h0, r0⟩ := trodAll_cons hA
  obtain ⟨v1, vs1, d1, ds1, p1, q1, rfl, rfl, rfl, h1, r1⟩ := trodAll_cons r0
  obtain ⟨rfl, rfl, rfl⟩ := trodAll_nil r1
  obtain rfl : args = #[v0, v1] := by cases args; simp_all
  obtain ⟨rfl, rfl⟩ := trodVars_none hV
  have k0 := h0
  have lt0 : ∀ x ∈ p0, x.block < W.heap.size := by obtain ⟨m, hm⟩ := k0; exact DataW.trod_lt m _ _ _ hm
  have k1 := h1
  have lt1 : ∀ x ∈ p1, x.block < W.heap.size := by obtain ⟨m, hm⟩ := k1; exact DataW.trod_lt m _ _ _ hm
  obtain ⟨a0, cs0, w0, rfl, ok0⟩ := arg_agg (agg_struct Try.underlying64 (hval 0 64 v0 rfl rfl)) strikeTimes_op64 h0
  obtain ⟨u0_0, cs0_0, rfl, e0_0, ok0_0⟩ := okL_cons ok0
  cases e0_0
  obtain ⟨u0_1, cs0_1, rfl, e0_1, ok0_1⟩ := okL_cons ok0_0
  cases e0_1
  obtain ⟨u0_2, cs0_2, rfl, e0_2, ok0_2⟩ := okL_cons ok0_1
  cases e0_2
  cases okL_nil ok0_2
  obtain ⟨a1, cs1, w1, rfl, ok1⟩ := arg_agg (agg_array Try.underlying75 (hval 1 75 v1 rfl rfl)) strikeTimes_op75 h1
  obtain ⟨u1_0, cs1_0, rfl, e1_0, ok1_0⟩ := okL_cons ok1
  cases e1_0
  obtain ⟨u1_1, cs1_1, rfl, e1_1, ok1_1⟩ := okL_cons ok1_0
  cases e1_1
  obtain ⟨u1_2, cs1_2, rfl, e1_2, ok1_2⟩ := okL_cons ok1_1
  cases e1_2
  obtain ⟨u1_3, cs1_3, rfl, e1_3, ok1_3⟩ := okL_cons ok1_2
  cases e1_3
  cases okL_nil ok1_3
  clear hA0 hval0
  obtain ⟨fuel, hev⟩ := strikeTimes_evx w0 w1
  refine (FC.run (fc_law05_StrikeTimes hev) (fun k => .bool false) rfl (fun y hy => ?_)).mono fun e W' ⟨he, bel⟩ => ?_
  · cases hy
  subst he
  exact ⟨_, rfl, _, _, _, [], _, [], hW', trodAll_mk1 (shut_bool Try.underlying4 _), (trodAll_cons_mk (Below.trod strikeTimes_laid (by kernel_rfl) (of_decide_eq_true (by kernel_rfl)) k0 bel lt0) (trodAll_cons_mk (Below.trod strikeTimes_laid (by kernel_rfl) (of_decide_eq_true (by kernel_rfl)) k1 bel lt1) trodAll_mk0)), rfl, bel.frame _, fun h => by cases h⟩

theorem strikeTimes_q1 : Try.checked.prog.funcNamed Rows.strikeTimesRow.func = some 9 := by kernel_rfl
theorem strikeTimes_and {a b : Bool} (ha : a = true) (hb : b = true) : (a && b) = true := by rw [ha, hb]; rfl
set_option maxHeartbeats 4000000 in
theorem strikeTimes_q2 : joinedFacts Try.checked.prog 9 Try.f9 Rows.strikeTimesSpec Rows.strikeTimesRow = true := by
  unfold joinedFacts
  exact strikeTimes_and (strikeTimes_and (strikeTimes_and (strikeTimes_and (strikeTimes_and (strikeTimes_and (strikeTimes_and (strikeTimes_and (strikeTimes_and (strikeTimes_and (strikeTimes_and (strikeTimes_and (strikeTimes_and (strikeTimes_and (strikeTimes_and (strikeTimes_and (strikeTimes_and (strikeTimes_and (strikeTimes_and (strikeTimes_and (strikeTimes_and (strikeTimes_and (strikeTimes_and (strikeTimes_and (strikeTimes_and (strikeTimes_and (strikeTimes_and (strikeTimes_and (strikeTimes_and (strikeTimes_and (strikeTimes_and (by as_aux_lemma => kernel_rfl) (by as_aux_lemma => kernel_rfl)) (by as_aux_lemma => kernel_rfl)) (by as_aux_lemma => kernel_rfl)) (by as_aux_lemma => kernel_rfl)) (by as_aux_lemma => kernel_rfl)) (by as_aux_lemma => kernel_rfl)) (by as_aux_lemma => kernel_rfl)) (by as_aux_lemma => kernel_rfl)) (by as_aux_lemma => kernel_rfl)) (by as_aux_lemma => kernel_rfl)) (by as_aux_lemma => kernel_rfl)) (by as_aux_lemma => kernel_rfl)) (by as_aux_lemma => kernel_rfl)) (by as_aux_lemma => kernel_rfl)) (by as_aux_lemma => kernel_rfl)) (by as_aux_lemma => kernel_rfl)) (by as_aux_lemma => kernel_rfl)) (by as_aux_lemma => kernel_rfl)) (by as_aux_lemma => kernel_rfl)) (by as_aux_lemma => kernel_rfl)) (by as_aux_lemma => kernel_rfl)) (by as_aux_lemma => kernel_rfl)) (by as_aux_lemma => kernel_rfl)) (by as_aux_lemma => kernel_rfl)) (by as_aux_lemma => kernel_rfl)) (by as_aux_lemma => kernel_rfl)) (by as_aux_lemma => kernel_rfl)) (by as_aux_lemma => kernel_rfl)) (by as_aux_lemma => kernel_rfl)) (by as_aux_lemma => kernel_rfl)) (by as_aux_lemma => kernel_rfl)
theorem strikeTimes_q3 : Try.f9.isInstance Try.checked.prog Rows.strikeTimesRow.origin Rows.strikeTimesRow.targs := (of_decide_eq_true (by kernel_rfl))
theorem strikeTimes_q4 : Try.f9.isWrapper Try.checked.prog Rows.strikeTimesRow.wrapper Rows.strikeTimesRow.mainSum := (by unfold Func.isWrapper; first | (rw [if_pos (by decide +kernel)]; kernel_rfl) | (rw [if_neg (by decide +kernel)]; exact ⟨rfl, rfl⟩))
theorem strikeTimes_q5 : ∀ os : Os, os.Started → ∀ (H : Type) (enc : TypeId × Value → H), (∀ a b, enc a = enc b → a = b) →
    ReturnsInHanded Rows.strikeTimesRow.assume Try.checked os 9 .any (Rows.strikeTimesRow.pre enc Try.checked.prog Try.f9 (OpenSpec.ofChange Rows.strikeTimesSpec)) (Rows.strikeTimesSpec.post enc Try.checked.prog Try.f9 Rows.strikeTimesRow.apart Rows.strikeTimesRow.fresh Rows.strikeTimesRow.handsOn Rows.strikeTimesRow.again) := fun os started H enc _ => strikeTimes_lifted os started H enc
theorem strikeTimes_said : Rows.StrikeTimesSaid :=
  OpenClaim.holds_of_wide 9 Try.f9 rfl rfl rfl rfl rfl rfl rfl ⟨rfl, rfl, rfl, rfl, rfl⟩ rfl rfl rfl rfl rfl strikeTimes_q1 Try.func9 strikeTimes_q2 strikeTimes_q3 strikeTimes_q4 strikeTimes_q5
end Go.Proofs.Ytglgkcfgjaoabaa.Sy
namespace Go.Proofs.Ytglgkcfgjaoabaa
theorem strikeTimes_holds : Rows.StrikeTimesSaid := Sy.strikeTimes_said
#print axioms strikeTimes_holds
end Go.Proofs.Ytglgkcfgjaoabaa
