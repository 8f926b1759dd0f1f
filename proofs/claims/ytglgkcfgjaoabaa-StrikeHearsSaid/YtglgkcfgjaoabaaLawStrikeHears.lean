/- How often a strike has missed. -/
import Derived.Test.YtglgkcfgjaoabaaRows
import Derived.Test.YtglgkcfgjaoabaaEvStrikeHears
import Derived.Test.YtglgkcfgjaoabaaSymO
import Derived.Test.YtglgkcfgjaoabaaChecked
import Derived.ProofKit
import Derived.ShutString
import Derived.ChangeOld
set_option linter.unusedSimpArgs false
set_option linter.unusedVariables false
namespace Go.Proofs.Ytglgkcfgjaoabaa.Sy
open Go.ChangeShapes Go.WideShapes Go.ChangeAt Go.RowKit

theorem strikeHears_op3 : Opens Try.prog 3 1 (fun x : Int => [D.v (.int .i64 x)]) (fun x => (Lit.int .i64 x).wf = true) := opens_int Try.underlying3 (by kernel_rfl)
theorem strikeHears_op81 : Opens Try.prog 81 2 (fun x : Int × Int => [D.v (.int .i64 x.1), D.v (.int .i64 x.2)]) (fun x => (Lit.int .i64 x.1).wf = true ∧ (Lit.int .i64 x.2).wf = true) := (opens_struct Try.underlying81 (by kernel_rfl) (by kernel_rfl) (parts_cons strikeHears_op3 (parts_cons strikeHears_op3 parts_nil))).map (fun p => (p.1, p.2.1)) (fun _ => rfl) (fun p h => ⟨h.1, h.2.1⟩)
theorem strikeHears_op22 : Opens Try.prog 22 1 (fun x : (List (Int × Int)) => [D.s 2 (List.map (fun el81 : Int × Int => [D.v (.int .i64 el81.1), D.v (.int .i64 el81.2)]) x)]) (fun x => ((x).length ≤ maxLen ∧ ∀ el81 ∈ x, (Lit.int .i64 el81.1).wf = true ∧ (Lit.int .i64 el81.2).wf = true)) := opens_slice Try.underlying22 (by kernel_rfl) (by decide) strikeHears_op81
theorem strikeHears_op4 : Opens Try.prog 4 1 (fun x : Bool => [D.v (.bool x)]) (fun x => True) := opens_bool Try.underlying4 (by kernel_rfl)
theorem strikeHears_op24 : Opens Try.prog 24 3 (fun x : Bool × Bool × (List (Int × Int)) => [D.v (.bool x.1), D.v (.bool x.2.1), D.s 2 (List.map (fun el81 : Int × Int => [D.v (.int .i64 el81.1), D.v (.int .i64 el81.2)]) x.2.2)]) (fun x => True ∧ True ∧ ((x.2.2).length ≤ maxLen ∧ ∀ el81 ∈ x.2.2, (Lit.int .i64 el81.1).wf = true ∧ (Lit.int .i64 el81.2).wf = true)) := (opens_struct Try.underlying24 (by kernel_rfl) (by kernel_rfl) (parts_cons strikeHears_op4 (parts_cons strikeHears_op4 (parts_cons strikeHears_op22 parts_nil)))).map (fun p => (p.1, p.2.1, p.2.2.1)) (fun _ => rfl) (fun p h => ⟨h.1, h.2.1, h.2.2.1⟩)
theorem strikeHears_op43 : Opens Try.prog 43 2 (fun x : Int × Int => [D.v (.int .i64 x.1), D.v (.int .i64 x.2)]) (fun x => (Lit.int .i64 x.1).wf = true ∧ (Lit.int .i64 x.2).wf = true) := (opens_struct Try.underlying43 (by kernel_rfl) (by kernel_rfl) (parts_cons strikeHears_op3 (parts_cons strikeHears_op3 parts_nil))).map (fun p => (p.1, p.2.1)) (fun _ => rfl) (fun p h => ⟨h.1, h.2.1⟩)
theorem strikeHears_op37 : Opens Try.prog 37 1 (fun x : (List (Int × Int)) => [D.s 2 (List.map (fun el43 : Int × Int => [D.v (.int .i64 el43.1), D.v (.int .i64 el43.2)]) x)]) (fun x => ((x).length ≤ maxLen ∧ ∀ el43 ∈ x, (Lit.int .i64 el43.1).wf = true ∧ (Lit.int .i64 el43.2).wf = true)) := opens_slice Try.underlying37 (by kernel_rfl) (by decide) strikeHears_op43
theorem strikeHears_own : ownKnob Try.prog.godebug = none := by kernel_rfl
theorem strikeHears_laid : laidOutB Try.prog = true := by kernel_rfl
set_option maxRecDepth 100000 in
set_option maxHeartbeats 1000000 in
theorem strikeHears_lifted (os : Os) (started : os.Started) (H : Type) (enc : TypeId × Value → H) :
    ReturnsInHanded {} Try.checked os 4 .any (Rows.strikeHearsSpec.pre6 enc Try.prog Try.f4 Rows.strikeHearsRow.domain false) (Rows.strikeHearsSpec.post enc Try.prog Try.f4 false true false false) := by
  refine returnsInHanded_of_change (C := Try.checked) strikeHears_own started (by kernel_rfl) Try.func4
    (ChangeSpec.witness6 (enc := enc) (C := Try.checked) false ⟨#[], #[.agg #[.bool false, .bool false, .slice none 0 0], .slice none 0 0], []⟩ 8 (by kernel_rfl) (by kernel_rfl) (by kernel_rfl) (by kernel_rfl)) ?_
  intro W base args ds gs before hval0 hW hcnd _
  have hval : ∀ (j : Nat) t v, Try.f4.params[j]? = some t → args[j]? = some v → Value.okWide Try.prog W .any base t v := hval0
  have hW' := hW
  obtain ⟨p, q, hA0, hV, rfl, hfz, hnd⟩ := hW
  have hA : DataW.TrodAll enc Try.prog W 0 (fun _ => true) true Try.f4.params.toList args.toList ds p := hA0
  rw [Try.params4] at hA hval
  obtain ⟨v0, vs0, d0, ds0, p0, q0, hargs, rfl, rfl, h0, r0⟩ := trodAll_cons hA
  obtain ⟨v1, vs1, d1, ds1, p1, q1, rfl, rfl, rfl, h1, r1⟩ := trodAll_cons r0
  obtain ⟨rfl, rfl, rfl⟩ := trodAll_nil r1
  obtain rfl : args = #[v0, v1] := by cases args; simp_all
  obtain ⟨rfl, rfl⟩ := trodVars_none hV
  have k0 := h0
  have lt0 : ∀ x ∈ p0, x.block < W.heap.size := by obtain ⟨m, hm⟩ := k0; exact DataW.trod_lt m _ _ _ hm
  have k1 := h1
  have lt1 : ∀ x ∈ p1, x.block < W.heap.size := by obtain ⟨m, hm⟩ := k1; exact DataW.trod_lt m _ _ _ hm
  obtain ⟨a0, cs0, w0, rfl, ok0⟩ := arg_agg (agg_struct Try.underlying24 (hval 0 24 v0 rfl rfl)) strikeHears_op24 h0
  obtain ⟨u0_0, cs0_0, rfl, e0_0, ok0_0⟩ := okL_cons ok0
  cases e0_0
  obtain ⟨u0_1, cs0_1, rfl, e0_1, ok0_1⟩ := okL_cons ok0_0
  cases e0_1
  obtain ⟨u0_2, cs0_2, rfl, e0_2, ok0_2⟩ := okL_cons ok0_1
  obtain ⟨b0_2, n0_2, c0_2, rfl⟩ := reads_slice e0_2
  cases okL_nil ok0_2
  obtain ⟨a1, w1, rd1⟩ := arg_slice Try.underlying37 strikeHears_op37 (hval 1 37 v1 rfl rfl) h1
  obtain ⟨b1, n1, c1, rfl⟩ := reads_slice rd1
  clear hA0 hval0
  obtain ⟨fuel, hev⟩ := strikeHears_evx w0 w1
  refine (FC.run (fc_law05_StrikeHears hev) (fun k => if k = 0 then (.slice b0_2 n0_2 c0_2) else if k = 1 then (.slice b1 n1 c1) else .bool false) rfl (fun y hy => ?_)).mono fun e W' ⟨he, bel⟩ => ?_
  · simp only [List.mem_cons, List.not_mem_nil, or_false] at hy
    rcases hy with rfl | rfl
    · exact e0_2
    · exact rd1
  subst he
  exact ⟨_, rfl, _, _, _, [], _, [], hW', trodAll_mk1 (shut_bool Try.underlying4 _), (trodAll_cons_mk (Below.trod strikeHears_laid (by kernel_rfl) (of_decide_eq_true (by kernel_rfl)) k0 bel lt0) (trodAll_cons_mk (Below.trod strikeHears_laid (by kernel_rfl) (of_decide_eq_true (by kernel_rfl)) k1 bel lt1) trodAll_mk0)), rfl, bel.frame _, fun h => by cases h⟩

theorem strikeHears_q1 : Try.checked.prog.funcNamed Rows.strikeHearsRow.func = some 4 := by kernel_rfl
theorem strikeHears_and {a b : Bool} (ha : a = true) (hb : b = true) : (a && b) = true := by rw [ha, hb]; rfl
set_option maxHeartbeats 4000000 in
theorem strikeHears_q2 : joinedFacts Try.checked.prog 4 Try.f4 Rows.strikeHearsSpec Rows.strikeHearsRow = true := by
  unfold joinedFacts
  exact strikeHears_and (strikeHears_and (strikeHears_and (strikeHears_and (strikeHears_and (strikeHears_and (strikeHears_and (strikeHears_and (strikeHears_and (strikeHears_and (strikeHears_and (strikeHears_and (strikeHears_and (strikeHears_and (strikeHears_and (strikeHears_and (strikeHears_and (strikeHears_and (strikeHears_and (strikeHears_and (strikeHears_and (strikeHears_and (strikeHears_and (strikeHears_and (strikeHears_and (strikeHears_and (strikeHears_and (strikeHears_and (strikeHears_and (strikeHears_and (strikeHears_and (by as_aux_lemma => kernel_rfl) (by as_aux_lemma => kernel_rfl)) (by as_aux_lemma => kernel_rfl)) (by as_aux_lemma => kernel_rfl)) (by as_aux_lemma => kernel_rfl)) (by as_aux_lemma => kernel_rfl)) (by as_aux_lemma => kernel_rfl)) (by as_aux_lemma => kernel_rfl)) (by as_aux_lemma => kernel_rfl)) (by as_aux_lemma => kernel_rfl)) (by as_aux_lemma => kernel_rfl)) (by as_aux_lemma => kernel_rfl)) (by as_aux_lemma => kernel_rfl)) (by as_aux_lemma => kernel_rfl)) (by as_aux_lemma => kernel_rfl)) (by as_aux_lemma => kernel_rfl)) (by as_aux_lemma => kernel_rfl)) (by as_aux_lemma => kernel_rfl)) (by as_aux_lemma => kernel_rfl)) (by as_aux_lemma => kernel_rfl)) (by as_aux_lemma => kernel_rfl)) (by as_aux_lemma => kernel_rfl)) (by as_aux_lemma => kernel_rfl)) (by as_aux_lemma => kernel_rfl)) (by as_aux_lemma => kernel_rfl)) (by as_aux_lemma => kernel_rfl)) (by as_aux_lemma => kernel_rfl)) (by as_aux_lemma => kernel_rfl)) (by as_aux_lemma => kernel_rfl)) (by as_aux_lemma => kernel_rfl)) (by as_aux_lemma => kernel_rfl)) (by as_aux_lemma => kernel_rfl)
theorem strikeHears_q3 : Try.f4.isInstance Try.checked.prog Rows.strikeHearsRow.origin Rows.strikeHearsRow.targs := (of_decide_eq_true (by kernel_rfl))
theorem strikeHears_q4 : Try.f4.isWrapper Try.checked.prog Rows.strikeHearsRow.wrapper Rows.strikeHearsRow.mainSum := (by unfold Func.isWrapper; first | (rw [if_pos (by decide +kernel)]; kernel_rfl) | (rw [if_neg (by decide +kernel)]; exact ⟨rfl, rfl⟩))
theorem strikeHears_q5 : ∀ os : Os, os.Started → ∀ (H : Type) (enc : TypeId × Value → H), (∀ a b, enc a = enc b → a = b) →
    ReturnsInHanded Rows.strikeHearsRow.assume Try.checked os 4 .any (Rows.strikeHearsRow.pre enc Try.checked.prog Try.f4 (OpenSpec.ofChange Rows.strikeHearsSpec)) (Rows.strikeHearsSpec.post enc Try.checked.prog Try.f4 Rows.strikeHearsRow.apart Rows.strikeHearsRow.fresh Rows.strikeHearsRow.handsOn Rows.strikeHearsRow.again) := fun os started H enc _ => strikeHears_lifted os started H enc
theorem strikeHears_said : Rows.StrikeHearsSaid :=
  OpenClaim.holds_of_wide 4 Try.f4 rfl rfl rfl rfl rfl rfl rfl ⟨rfl, rfl, rfl, rfl, rfl⟩ rfl rfl rfl rfl rfl strikeHears_q1 Try.func4 strikeHears_q2 strikeHears_q3 strikeHears_q4 strikeHears_q5
end Go.Proofs.Ytglgkcfgjaoabaa.Sy
namespace Go.Proofs.Ytglgkcfgjaoabaa
theorem strikeHears_holds : Rows.StrikeHearsSaid := Sy.strikeHears_said
#print axioms strikeHears_holds
end Go.Proofs.Ytglgkcfgjaoabaa
