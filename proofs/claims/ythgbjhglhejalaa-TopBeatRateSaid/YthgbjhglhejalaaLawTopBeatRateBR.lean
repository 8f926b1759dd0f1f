/- The law TopBeatRate holds: after turns of the nut that change a clock's base by any integer that they can, its rates in any weather lie in the image of the act, and whatever is seen, the next state has all rates that are so near to it, at all inputs; no further conditions. -/
import Derived.Test.YthgbjhglhejalaaRows
import Derived.Test.YthgbjhglhejalaaBREvTopBeatRate
import Derived.Test.YthgbjhglhejalaaBRSymO
import Derived.Test.YthgbjhglhejalaaChecked
import Derived.ProofKit
import Derived.ShutString
import Derived.ChangeOld
set_option linter.unusedSimpArgs false
set_option linter.unusedVariables false
namespace Go.Proofs.Ythgbjhglhejalaa.Sy
open Go.ChangeShapes Go.WideShapes Go.ChangeAt Go.RowKit

theorem topBeatRate_op5 : Opens Try.prog 5 1 (fun x : Int => [D.v (.int .u8 x)]) (fun x => (Lit.int .u8 x).wf = true) := opens_int Try.underlying5 (by kernel_rfl)
theorem topBeatRate_op56 : Opens Try.prog 56 4 (fun x : Int × Int × Int × Int => [D.v (.int .u8 x.1), D.v (.int .u8 x.2.1), D.v (.int .u8 x.2.2.1), D.v (.int .u8 x.2.2.2)]) (fun x => (Lit.int .u8 x.1).wf = true ∧ (Lit.int .u8 x.2.1).wf = true ∧ (Lit.int .u8 x.2.2.1).wf = true ∧ (Lit.int .u8 x.2.2.2).wf = true) := (opens_array (m := 4) (s := 1) Try.underlying56 (by kernel_rfl) (by kernel_rfl) (parts_cons topBeatRate_op5 (parts_cons topBeatRate_op5 (parts_cons topBeatRate_op5 (parts_cons topBeatRate_op5 parts_nil))))).map (fun p => (p.1, p.2.1, p.2.2.1, p.2.2.2.1)) (fun _ => rfl) (fun p h => ⟨h.1, h.2.1, h.2.2.1, h.2.2.2.1⟩)
theorem topBeatRate_op55 : Opens Try.prog 55 1 (fun x : Int => [D.v (.int .i8 x)]) (fun x => (Lit.int .i8 x).wf = true) := opens_int Try.underlying55 (by kernel_rfl)
theorem topBeatRate_op59 : Opens Try.prog 59 3 (fun x : Int × Int × Int => [D.v (.int .u8 x.1), D.v (.int .u8 x.2.1), D.v (.int .u8 x.2.2)]) (fun x => (Lit.int .u8 x.1).wf = true ∧ (Lit.int .u8 x.2.1).wf = true ∧ (Lit.int .u8 x.2.2).wf = true) := (opens_array (m := 3) (s := 1) Try.underlying59 (by kernel_rfl) (by kernel_rfl) (parts_cons topBeatRate_op5 (parts_cons topBeatRate_op5 (parts_cons topBeatRate_op5 parts_nil)))).map (fun p => (p.1, p.2.1, p.2.2.1)) (fun _ => rfl) (fun p h => ⟨h.1, h.2.1, h.2.2.1⟩)
theorem topBeatRate_op54 : Opens Try.prog 54 1 (fun x : (List (Int × Int × Int)) => [D.s 3 (List.map (fun el59 : Int × Int × Int => [D.v (.int .u8 el59.1), D.v (.int .u8 el59.2.1), D.v (.int .u8 el59.2.2)]) x)]) (fun x => ((x).length ≤ maxLen ∧ ∀ el59 ∈ x, (Lit.int .u8 el59.1).wf = true ∧ (Lit.int .u8 el59.2.1).wf = true ∧ (Lit.int .u8 el59.2.2).wf = true)) := opens_slice Try.underlying54 (by kernel_rfl) (by decide) topBeatRate_op59
theorem topBeatRate_op58 : Opens Try.prog 58 7 (fun x : (List (Int × Int × Int)) × Int × Int × Int × Int × Int × Int => [D.s 3 (List.map (fun el59 : Int × Int × Int => [D.v (.int .u8 el59.1), D.v (.int .u8 el59.2.1), D.v (.int .u8 el59.2.2)]) x.1), D.v (.int .u8 x.2.1), D.v (.int .i8 x.2.2.1), D.v (.int .u8 x.2.2.2.1), D.v (.int .u8 x.2.2.2.2.1), D.v (.int .u8 x.2.2.2.2.2.1), D.v (.int .u8 x.2.2.2.2.2.2)]) (fun x => ((x.1).length ≤ maxLen ∧ ∀ el59 ∈ x.1, (Lit.int .u8 el59.1).wf = true ∧ (Lit.int .u8 el59.2.1).wf = true ∧ (Lit.int .u8 el59.2.2).wf = true) ∧ (Lit.int .u8 x.2.1).wf = true ∧ (Lit.int .i8 x.2.2.1).wf = true ∧ (Lit.int .u8 x.2.2.2.1).wf = true ∧ (Lit.int .u8 x.2.2.2.2.1).wf = true ∧ (Lit.int .u8 x.2.2.2.2.2.1).wf = true ∧ (Lit.int .u8 x.2.2.2.2.2.2).wf = true) := (opens_struct Try.underlying58 (by kernel_rfl) (by kernel_rfl) (parts_cons topBeatRate_op54 (parts_cons topBeatRate_op5 (parts_cons topBeatRate_op55 (parts_cons topBeatRate_op56 parts_nil))))).map (fun p => (p.1, p.2.1, p.2.2.1, p.2.2.2.1.1, p.2.2.2.1.2.1, p.2.2.2.1.2.2.1, p.2.2.2.1.2.2.2)) (fun _ => rfl) (fun p h => ⟨h.1, h.2.1, h.2.2.1, h.2.2.2.1.1, h.2.2.2.1.2.1, h.2.2.2.1.2.2.1, h.2.2.2.1.2.2.2⟩)
theorem topBeatRate_own : ownKnob Try.prog.godebug = none := by kernel_rfl
theorem topBeatRate_laid : laidOutB Try.prog = true := by kernel_rfl
set_option maxRecDepth 100000 in
set_option maxHeartbeats 1000000 in
theorem topBeatRate_lifted (os : Os) (started : os.Started) (H : Type) (enc : TypeId × Value → H) :
    ReturnsInHanded {} Try.checked os 4 .any (Rows.topBeatRateSpec.pre6 enc Try.prog Try.f4 Rows.topBeatRateRow.domain false) (Rows.topBeatRateSpec.post enc Try.prog Try.f4 false true false false) := by
  refine returnsInHanded_of_change (C := Try.checked) topBeatRate_own started (by kernel_rfl) Try.func4
    (ChangeSpec.witness6 (enc := enc) (C := Try.checked) false ⟨#[], #[.agg #[.slice none 0 0, .int .u8 0, .int .i8 0, .int .u8 0, .int .u8 0, .int .u8 0, .int .u8 0], .agg #[.int .u8 0, .int .u8 0, .int .u8 0, .int .u8 0], .agg #[.int .u8 0, .int .u8 0, .int .u8 0]], []⟩ 8 (by kernel_rfl) (by kernel_rfl) (by kernel_rfl) (by kernel_rfl)) ?_
  intro W base args ds gs before hval0 hW hcnd _
  have hval : ∀ (j : Nat) t v, Try.f4.params[j]? = some t → args[j]? = some v → Value.okWide Try.prog W .any base t v := hval0
  have hW' := hW
  obtain ⟨p, q, hA0, hV, rfl, hfz, hnd⟩ := hW
  have hA : DataW.TrodAll enc Try.prog W 0 (fun _ => true) true Try.f4.params.toList args.toList ds p := hA0
  rw [Try.params4] at hA hval
  obtain ⟨v0, vs0, d0, ds0, p0, q0, hargs, rfl, rfl, h0, r0⟩ := trodAll_cons hA
  obtain ⟨v1, vs1, d1, ds1, p1, q1, rfl, rfl, rfl, h1, r1⟩ := trodAll_cons r0
  obtain ⟨v2, vs2, d2, ds2, p2, q2, rfl, rfl, rfl, h2, r2⟩ := trodAll_cons r1
  obtain ⟨rfl, rfl, rfl⟩ := trodAll_nil r2
  obtain rfl : args = #[v0, v1, v2] := by cases args; simp_all
  obtain ⟨rfl, rfl⟩ := trodVars_none hV
  have k0 := h0
  have lt0 : ∀ x ∈ p0, x.block < W.heap.size := by obtain ⟨m, hm⟩ := k0; exact DataW.trod_lt m _ _ _ hm
  have k1 := h1
  have lt1 : ∀ x ∈ p1, x.block < W.heap.size := by obtain ⟨m, hm⟩ := k1; exact DataW.trod_lt m _ _ _ hm
  have k2 := h2
  have lt2 : ∀ x ∈ p2, x.block < W.heap.size := by obtain ⟨m, hm⟩ := k2; exact DataW.trod_lt m _ _ _ hm
  obtain ⟨a0, cs0, w0, rfl, ok0⟩ := arg_agg (agg_struct Try.underlying58 (hval 0 58 v0 rfl rfl)) topBeatRate_op58 h0
  obtain ⟨u0_0, cs0_0, rfl, e0_0, ok0_0⟩ := okL_cons ok0
  obtain ⟨b0_0, n0_0, c0_0, rfl⟩ := reads_slice e0_0
  obtain ⟨u0_1, cs0_1, rfl, e0_1, ok0_1⟩ := okL_cons ok0_0
  cases e0_1
  obtain ⟨u0_2, cs0_2, rfl, e0_2, ok0_2⟩ := okL_cons ok0_1
  cases e0_2
  obtain ⟨u0_3, cs0_3, rfl, e0_3, ok0_3⟩ := okL_cons ok0_2
  cases e0_3
  obtain ⟨u0_4, cs0_4, rfl, e0_4, ok0_4⟩ := okL_cons ok0_3
  cases e0_4
  obtain ⟨u0_5, cs0_5, rfl, e0_5, ok0_5⟩ := okL_cons ok0_4
  cases e0_5
  obtain ⟨u0_6, cs0_6, rfl, e0_6, ok0_6⟩ := okL_cons ok0_5
  cases e0_6
  cases okL_nil ok0_6
  obtain ⟨a1, cs1, w1, rfl, ok1⟩ := arg_agg (agg_array Try.underlying56 (hval 1 56 v1 rfl rfl)) topBeatRate_op56 h1
  obtain ⟨u1_0, cs1_0, rfl, e1_0, ok1_0⟩ := okL_cons ok1
  cases e1_0
  obtain ⟨u1_1, cs1_1, rfl, e1_1, ok1_1⟩ := okL_cons ok1_0
  cases e1_1
  obtain ⟨u1_2, cs1_2, rfl, e1_2, ok1_2⟩ := okL_cons ok1_1
  cases e1_2
  obtain ⟨u1_3, cs1_3, rfl, e1_3, ok1_3⟩ := okL_cons ok1_2
  cases e1_3
  cases okL_nil ok1_3
  obtain ⟨a2, cs2, w2, rfl, ok2⟩ := arg_agg (agg_array Try.underlying59 (hval 2 59 v2 rfl rfl)) topBeatRate_op59 h2
  obtain ⟨u2_0, cs2_0, rfl, e2_0, ok2_0⟩ := okL_cons ok2
  cases e2_0
  obtain ⟨u2_1, cs2_1, rfl, e2_1, ok2_1⟩ := okL_cons ok2_0
  cases e2_1
  obtain ⟨u2_2, cs2_2, rfl, e2_2, ok2_2⟩ := okL_cons ok2_1
  cases e2_2
  cases okL_nil ok2_2
  clear hA0 hval0
  obtain ⟨fuel, hev⟩ := topBeatRate_evx w0 w1 w2
  refine (FC.run (fc_top_TopBeatRate hev) (fun k => if k = 0 then (.slice b0_0 n0_0 c0_0) else .bool false) rfl (fun y hy => ?_)).mono fun e W' ⟨he, bel⟩ => ?_
  · simp only [List.mem_cons, List.not_mem_nil, or_false] at hy
    rcases hy with rfl
    · exact e0_0
  subst he
  exact ⟨_, rfl, _, _, _, [], _, [], hW', trodAll_mk1 (shut_bool Try.underlying4 _), (trodAll_cons_mk (Below.trod topBeatRate_laid (by kernel_rfl) (of_decide_eq_true (by kernel_rfl)) k0 bel lt0) (trodAll_cons_mk (Below.trod topBeatRate_laid (by kernel_rfl) (of_decide_eq_true (by kernel_rfl)) k1 bel lt1) (trodAll_cons_mk (Below.trod topBeatRate_laid (by kernel_rfl) (of_decide_eq_true (by kernel_rfl)) k2 bel lt2) trodAll_mk0))), rfl, bel.frame _, fun h => by cases h⟩

theorem topBeatRate_q1 : Try.checked.prog.funcNamed Rows.topBeatRateRow.func = some 4 := by kernel_rfl
theorem topBeatRate_and {a b : Bool} (ha : a = true) (hb : b = true) : (a && b) = true := by rw [ha, hb]; rfl
set_option maxHeartbeats 4000000 in
theorem topBeatRate_q2 : joinedFacts Try.checked.prog 4 Try.f4 Rows.topBeatRateSpec Rows.topBeatRateRow = true := by
  unfold joinedFacts
  exact topBeatRate_and (topBeatRate_and (topBeatRate_and (topBeatRate_and (topBeatRate_and (topBeatRate_and (topBeatRate_and (topBeatRate_and (topBeatRate_and (topBeatRate_and (topBeatRate_and (topBeatRate_and (topBeatRate_and (topBeatRate_and (topBeatRate_and (topBeatRate_and (topBeatRate_and (topBeatRate_and (topBeatRate_and (topBeatRate_and (topBeatRate_and (topBeatRate_and (topBeatRate_and (topBeatRate_and (topBeatRate_and (topBeatRate_and (topBeatRate_and (topBeatRate_and (topBeatRate_and (topBeatRate_and (topBeatRate_and (by as_aux_lemma => kernel_rfl) (by as_aux_lemma => kernel_rfl)) (by as_aux_lemma => kernel_rfl)) (by as_aux_lemma => kernel_rfl)) (by as_aux_lemma => kernel_rfl)) (by as_aux_lemma => kernel_rfl)) (by as_aux_lemma => kernel_rfl)) (by as_aux_lemma => kernel_rfl)) (by as_aux_lemma => kernel_rfl)) (by as_aux_lemma => kernel_rfl)) (by as_aux_lemma => kernel_rfl)) (by as_aux_lemma => kernel_rfl)) (by as_aux_lemma => kernel_rfl)) (by as_aux_lemma => kernel_rfl)) (by as_aux_lemma => kernel_rfl)) (by as_aux_lemma => kernel_rfl)) (by as_aux_lemma => kernel_rfl)) (by as_aux_lemma => kernel_rfl)) (by as_aux_lemma => kernel_rfl)) (by as_aux_lemma => kernel_rfl)) (by as_aux_lemma => kernel_rfl)) (by as_aux_lemma => kernel_rfl)) (by as_aux_lemma => kernel_rfl)) (by as_aux_lemma => kernel_rfl)) (by as_aux_lemma => kernel_rfl)) (by as_aux_lemma => kernel_rfl)) (by as_aux_lemma => kernel_rfl)) (by as_aux_lemma => kernel_rfl)) (by as_aux_lemma => kernel_rfl)) (by as_aux_lemma => kernel_rfl)) (by as_aux_lemma => kernel_rfl)) (by as_aux_lemma => kernel_rfl)
theorem topBeatRate_q3 : Try.f4.isInstance Try.checked.prog Rows.topBeatRateRow.origin Rows.topBeatRateRow.targs := (of_decide_eq_true (by kernel_rfl))
theorem topBeatRate_q4 : Try.f4.isWrapper Try.checked.prog Rows.topBeatRateRow.wrapper Rows.topBeatRateRow.mainSum := (by unfold Func.isWrapper; first | (rw [if_pos (by decide +kernel)]; kernel_rfl) | (rw [if_neg (by decide +kernel)]; exact ⟨rfl, rfl⟩))
theorem topBeatRate_q5 : ∀ os : Os, os.Started → ∀ (H : Type) (enc : TypeId × Value → H), (∀ a b, enc a = enc b → a = b) →
    ReturnsInHanded Rows.topBeatRateRow.assume Try.checked os 4 .any (Rows.topBeatRateRow.pre enc Try.checked.prog Try.f4 (OpenSpec.ofChange Rows.topBeatRateSpec)) (Rows.topBeatRateSpec.post enc Try.checked.prog Try.f4 Rows.topBeatRateRow.apart Rows.topBeatRateRow.fresh Rows.topBeatRateRow.handsOn Rows.topBeatRateRow.again) := fun os started H enc _ => topBeatRate_lifted os started H enc
theorem topBeatRate_said : Rows.TopBeatRateSaid :=
  OpenClaim.holds_of_wide 4 Try.f4 rfl rfl rfl rfl rfl rfl rfl ⟨rfl, rfl, rfl, rfl, rfl⟩ rfl rfl rfl rfl rfl topBeatRate_q1 Try.func4 topBeatRate_q2 topBeatRate_q3 topBeatRate_q4 topBeatRate_q5
end Go.Proofs.Ythgbjhglhejalaa.Sy
namespace Go.Proofs.Ythgbjhglhejalaa
theorem topBeatRate_holds : Rows.TopBeatRateSaid := Sy.topBeatRate_said
#print axioms topBeatRate_holds
end Go.Proofs.Ythgbjhglhejalaa
