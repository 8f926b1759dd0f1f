/- For every line, dial and list of what was seen PulseFewests returns true, and changes none of its arguments. -/
import Derived.Test.YtjmkjlhnipnkcaaRows
import Derived.Test.YtjmkjlhnipnkcaaPfEvFewests
import Derived.Test.YtjmkjlhnipnkcaaPfSymRMJ
import Derived.Test.YtjmkjlhnipnkcaaChecked
import Derived.ProofKit
import Derived.ShutString
import Derived.ChangeOld
set_option linter.unusedSimpArgs false
set_option linter.unusedVariables false
namespace Go.Proofs.Ytjmkjlhnipnkcaa.Sy
open Go.ChangeShapes Go.WideShapes Go.ChangeAt Go.RowKit

theorem pulseFewests_op3 : Opens Try.prog 3 1 (fun x : Int => [D.v (.int .i64 x)]) (fun x => (Lit.int .i64 x).wf = true) := opens_int Try.underlying3 (by kernel_rfl)
theorem pulseFewests_op22 : Opens Try.prog 22 1 (fun x : Int => [D.v (.int .i64 x)]) (fun x => (Lit.int .i64 x).wf = true) := opens_int Try.underlying22 (by kernel_rfl)
theorem pulseFewests_op24 : Opens Try.prog 24 3 (fun x : Int × Int × Int => [D.v (.int .i64 x.1), D.v (.int .i64 x.2.1), D.v (.int .i64 x.2.2)]) (fun x => (Lit.int .i64 x.1).wf = true ∧ (Lit.int .i64 x.2.1).wf = true ∧ (Lit.int .i64 x.2.2).wf = true) := (opens_struct Try.underlying24 (by kernel_rfl) (by kernel_rfl) (parts_cons pulseFewests_op22 (parts_cons pulseFewests_op3 (parts_cons pulseFewests_op3 parts_nil)))).map (fun p => (p.1, p.2.1, p.2.2.1)) (fun _ => rfl) (fun p h => ⟨h.1, h.2.1, h.2.2.1⟩)
theorem pulseFewests_op45 : Opens Try.prog 45 2 (fun x : Int × Int => [D.v (.int .i64 x.1), D.v (.int .i64 x.2)]) (fun x => (Lit.int .i64 x.1).wf = true ∧ (Lit.int .i64 x.2).wf = true) := (opens_array (m := 2) (s := 1) Try.underlying45 (by kernel_rfl) (by kernel_rfl) (parts_cons pulseFewests_op3 (parts_cons pulseFewests_op3 parts_nil))).map (fun p => (p.1, p.2.1)) (fun _ => rfl) (fun p h => ⟨h.1, h.2.1⟩)
theorem pulseFewests_op53 : Opens Try.prog 53 2 (fun x : Int × Int => [D.v (.int .i64 x.1), D.v (.int .i64 x.2)]) (fun x => (Lit.int .i64 x.1).wf = true ∧ (Lit.int .i64 x.2).wf = true) := (opens_struct Try.underlying53 (by kernel_rfl) (by kernel_rfl) (parts_cons pulseFewests_op3 (parts_cons pulseFewests_op3 parts_nil))).map (fun p => (p.1, p.2.1)) (fun _ => rfl) (fun p h => ⟨h.1, h.2.1⟩)
theorem pulseFewests_op50 : Opens Try.prog 50 1 (fun x : (List (Int × Int)) => [D.s 2 (List.map (fun el53 : Int × Int => [D.v (.int .i64 el53.1), D.v (.int .i64 el53.2)]) x)]) (fun x => ((x).length ≤ maxLen ∧ ∀ el53 ∈ x, (Lit.int .i64 el53.1).wf = true ∧ (Lit.int .i64 el53.2).wf = true)) := opens_slice Try.underlying50 (by kernel_rfl) (by decide) pulseFewests_op53
theorem pulseFewests_own : ownKnob Try.prog.godebug = none := by kernel_rfl
theorem pulseFewests_laid : laidOutB Try.prog = true := by kernel_rfl
set_option maxRecDepth 100000 in
set_option maxHeartbeats 1000000 in
theorem pulseFewests_lifted (os : Os) (started : os.Started) (H : Type) (enc : TypeId × Value → H) :
    ReturnsInHanded {} Try.checked os 6 .any (Rows.pulseFewestsSpec.pre6 enc Try.prog Try.f6 Rows.pulseFewestsRow.domain false) (Rows.pulseFewestsSpec.post enc Try.prog Try.f6 false true false false) := by
  refine returnsInHanded_of_change (C := Try.checked) pulseFewests_own started (by kernel_rfl) Try.func6
    (ChangeSpec.witness6 (enc := enc) (C := Try.checked) false ⟨#[], #[.agg #[.int .i64 0, .int .i64 0, .int .i64 0], .agg #[.int .i64 0, .int .i64 0], .slice none 0 0], []⟩ 8 (by kernel_rfl) (by kernel_rfl) (by kernel_rfl) (by kernel_rfl)) ?_
  intro W base args ds gs before hval0 hW hcnd _
  have hval : ∀ (j : Nat) t v, Try.f6.params[j]? = some t → args[j]? = some v → Value.okWide Try.prog W .any base t v := hval0
  have hW' := hW
  obtain ⟨p, q, hA0, hV, rfl, hfz, hnd⟩ := hW
  have hA : DataW.TrodAll enc Try.prog W 0 (fun _ => true) true Try.f6.params.toList args.toList ds p := hA0
  rw [Try.params6] at hA hval
  obtain ⟨v0, vs0, d0, ds0, p0, q0, hargs, rfl, rfl, h0, r0⟩ := trodAll_cons hA
  obtain ⟨v1, vs1, d1, ds1, p1, q1, rfl, rfl, rfl, h1, r1⟩ := trodAll_cons r0
  obtain ⟨v2, vs2, d2, ds2, p2, q2, rfl, rfl, rfl, h2, r2⟩ := trodAll_cons r1
  obtain ⟨rfl, rfl, rfl⟩ := trodAll_nil r2
  obtain rfl : args = #[v0, v1, v2] := by cases args; simp_all
  obtain ⟨rfl, rfl⟩ := trodVars_none hV
  have k0 := h0
  have lt0 : ∀ x ∈ p0, x.block < W.heap.size := by obtain ⟨m, hm⟩ := k0; exact DataW.trod_lt m _ _ _ hm
  have k1 := h1
  have lt1 : ∀ x ∈ p1, x.block < W.heap.size := by obtain ⟨m, hm⟩ := k1; exact DataW.trod_lt m _ _ _ hm
  have k2 := h2
  have lt2 : ∀ x ∈ p2, x.block < W.heap.size := by obtain ⟨m, hm⟩ := k2; exact DataW.trod_lt m _ _ _ hm
  obtain ⟨a0, cs0, w0, rfl, ok0⟩ := arg_agg (agg_struct Try.underlying24 (hval 0 24 v0 rfl rfl)) pulseFewests_op24 h0
  obtain ⟨u0_0, cs0_0, rfl, e0_0, ok0_0⟩ := okL_cons ok0
  cases e0_0
  obtain ⟨u0_1, cs0_1, rfl, e0_1, ok0_1⟩ := okL_cons ok0_0
  cases e0_1
  obtain ⟨u0_2, cs0_2, rfl, e0_2, ok0_2⟩ := okL_cons ok0_1
  cases e0_2
  cases okL_nil ok0_2
  obtain ⟨a1, cs1, w1, rfl, ok1⟩ := arg_agg (agg_array Try.underlying45 (hval 1 45 v1 rfl rfl)) pulseFewests_op45 h1
  obtain ⟨u1_0, cs1_0, rfl, e1_0, ok1_0⟩ := okL_cons ok1
  cases e1_0
  obtain ⟨u1_1, cs1_1, rfl, e1_1, ok1_1⟩ := okL_cons ok1_0
  cases e1_1
  cases okL_nil ok1_1
  obtain ⟨a2, w2, rd2⟩ := arg_slice Try.underlying50 pulseFewests_op50 (hval 2 50 v2 rfl rfl) h2
  obtain ⟨b2, n2, c2, rfl⟩ := reads_slice rd2
  clear hA0 hval0
  obtain ⟨fuel, hev⟩ := pulseFewests_evx w0 w1 w2
  refine (FC.run (fc_law09_PulseFewests hev) (fun k => if k = 0 then (.slice b2 n2 c2) else .bool false) rfl (fun y hy => ?_)).mono fun e W' ⟨he, bel⟩ => ?_
  · simp only [List.mem_cons, List.not_mem_nil, or_false] at hy
    rcases hy with rfl
    · exact rd2
  subst he
  exact ⟨_, rfl, _, _, _, [], _, [], hW', trodAll_mk1 (shut_bool Try.underlying4 _), (trodAll_cons_mk (Below.trod pulseFewests_laid (by kernel_rfl) (of_decide_eq_true (by kernel_rfl)) k0 bel lt0) (trodAll_cons_mk (Below.trod pulseFewests_laid (by kernel_rfl) (of_decide_eq_true (by kernel_rfl)) k1 bel lt1) (trodAll_cons_mk (Below.trod pulseFewests_laid (by kernel_rfl) (of_decide_eq_true (by kernel_rfl)) k2 bel lt2) trodAll_mk0))), rfl, bel.frame _, fun h => by cases h⟩

theorem pulseFewests_q1 : Try.checked.prog.funcNamed Rows.pulseFewestsRow.func = some 6 := by kernel_rfl
theorem pulseFewests_and {a b : Bool} (ha : a = true) (hb : b = true) : (a && b) = true := by rw [ha, hb]; rfl
set_option maxHeartbeats 4000000 in
theorem pulseFewests_q2 : joinedFacts Try.checked.prog 6 Try.f6 Rows.pulseFewestsSpec Rows.pulseFewestsRow = true := by
  unfold joinedFacts
  exact pulseFewests_and (pulseFewests_and (pulseFewests_and (pulseFewests_and (pulseFewests_and (pulseFewests_and (pulseFewests_and (pulseFewests_and (pulseFewests_and (pulseFewests_and (pulseFewests_and (pulseFewests_and (pulseFewests_and (pulseFewests_and (pulseFewests_and (pulseFewests_and (pulseFewests_and (pulseFewests_and (pulseFewests_and (pulseFewests_and (pulseFewests_and (pulseFewests_and (pulseFewests_and (pulseFewests_and (pulseFewests_and (pulseFewests_and (pulseFewests_and (pulseFewests_and (pulseFewests_and (pulseFewests_and (pulseFewests_and (by as_aux_lemma => kernel_rfl) (by as_aux_lemma => kernel_rfl)) (by as_aux_lemma => kernel_rfl)) (by as_aux_lemma => kernel_rfl)) (by as_aux_lemma => kernel_rfl)) (by as_aux_lemma => kernel_rfl)) (by as_aux_lemma => kernel_rfl)) (by as_aux_lemma => kernel_rfl)) (by as_aux_lemma => kernel_rfl)) (by as_aux_lemma => kernel_rfl)) (by as_aux_lemma => kernel_rfl)) (by as_aux_lemma => kernel_rfl)) (by as_aux_lemma => kernel_rfl)) (by as_aux_lemma => kernel_rfl)) (by as_aux_lemma => kernel_rfl)) (by as_aux_lemma => kernel_rfl)) (by as_aux_lemma => kernel_rfl)) (by as_aux_lemma => kernel_rfl)) (by as_aux_lemma => kernel_rfl)) (by as_aux_lemma => kernel_rfl)) (by as_aux_lemma => kernel_rfl)) (by as_aux_lemma => kernel_rfl)) (by as_aux_lemma => kernel_rfl)) (by as_aux_lemma => kernel_rfl)) (by as_aux_lemma => kernel_rfl)) (by as_aux_lemma => kernel_rfl)) (by as_aux_lemma => kernel_rfl)) (by as_aux_lemma => kernel_rfl)) (by as_aux_lemma => kernel_rfl)) (by as_aux_lemma => kernel_rfl)) (by as_aux_lemma => kernel_rfl)) (by as_aux_lemma => kernel_rfl)
theorem pulseFewests_q3 : Try.f6.isInstance Try.checked.prog Rows.pulseFewestsRow.origin Rows.pulseFewestsRow.targs := (of_decide_eq_true (by kernel_rfl))
theorem pulseFewests_q4 : Try.f6.isWrapper Try.checked.prog Rows.pulseFewestsRow.wrapper Rows.pulseFewestsRow.mainSum := (by unfold Func.isWrapper; first | (rw [if_pos (by decide +kernel)]; kernel_rfl) | (rw [if_neg (by decide +kernel)]; exact ⟨rfl, rfl⟩))
theorem pulseFewests_q5 : ∀ os : Os, os.Started → ∀ (H : Type) (enc : TypeId × Value → H), (∀ a b, enc a = enc b → a = b) →
    ReturnsInHanded Rows.pulseFewestsRow.assume Try.checked os 6 .any (Rows.pulseFewestsRow.pre enc Try.checked.prog Try.f6 (OpenSpec.ofChange Rows.pulseFewestsSpec)) (Rows.pulseFewestsSpec.post enc Try.checked.prog Try.f6 Rows.pulseFewestsRow.apart Rows.pulseFewestsRow.fresh Rows.pulseFewestsRow.handsOn Rows.pulseFewestsRow.again) := fun os started H enc _ => pulseFewests_lifted os started H enc
theorem pulseFewests_said : Rows.PulseFewestsSaid :=
  OpenClaim.holds_of_wide 6 Try.f6 rfl rfl rfl rfl rfl rfl rfl ⟨rfl, rfl, rfl, rfl, rfl⟩ rfl rfl rfl rfl rfl pulseFewests_q1 Try.func6 pulseFewests_q2 pulseFewests_q3 pulseFewests_q4 pulseFewests_q5
end Go.Proofs.Ytjmkjlhnipnkcaa.Sy
namespace Go.Proofs.Ytjmkjlhnipnkcaa
theorem pulseFewests_holds : Rows.PulseFewestsSaid := Sy.pulseFewests_said
#print axioms pulseFewests_holds
end Go.Proofs.Ytjmkjlhnipnkcaa
