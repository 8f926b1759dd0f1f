/- The plan that brings any strike back, and its blows by hand, or the error, are what the document says, for all rules with at most 20 spans and up to 40 slots. -/
import Derived.Test.YtglgkcfgjaoabaaRows
import Derived.Test.YtglgkcfgjaoabaaSbEvStrikeBrings
import Derived.Test.YtglgkcfgjaoabaaSbSymO
import Derived.Test.YtglgkcfgjaoabaaChecked
import Derived.ProofKit
import Derived.ShutString
import Derived.ChangeOld
set_option linter.unusedSimpArgs false
set_option linter.unusedVariables false
namespace Go.Proofs.Ytglgkcfgjaoabaa.Sy
open Go.ChangeShapes Go.WideShapes Go.ChangeAt Go.RowKit

theorem strikeBrings_op3 : Opens Try.prog 3 1 (fun x : Int => [D.v (.int .i64 x)]) (fun x => (Lit.int .i64 x).wf = true) := opens_int Try.underlying3 (by kernel_rfl)
theorem strikeBrings_op81 : Opens Try.prog 81 2 (fun x : Int × Int => [D.v (.int .i64 x.1), D.v (.int .i64 x.2)]) (fun x => (Lit.int .i64 x.1).wf = true ∧ (Lit.int .i64 x.2).wf = true) := (opens_struct Try.underlying81 (by kernel_rfl) (by kernel_rfl) (parts_cons strikeBrings_op3 (parts_cons strikeBrings_op3 parts_nil))).map (fun p => (p.1, p.2.1)) (fun _ => rfl) (fun p h => ⟨h.1, h.2.1⟩)
theorem strikeBrings_op22 : Opens Try.prog 22 1 (fun x : (List (Int × Int)) => [D.s 2 (List.map (fun el81 : Int × Int => [D.v (.int .i64 el81.1), D.v (.int .i64 el81.2)]) x)]) (fun x => ((x).length ≤ maxLen ∧ ∀ el81 ∈ x, (Lit.int .i64 el81.1).wf = true ∧ (Lit.int .i64 el81.2).wf = true)) := opens_slice Try.underlying22 (by kernel_rfl) (by decide) strikeBrings_op81
theorem strikeBrings_op4 : Opens Try.prog 4 1 (fun x : Bool => [D.v (.bool x)]) (fun x => True) := opens_bool Try.underlying4 (by kernel_rfl)
theorem strikeBrings_op24 : Opens Try.prog 24 3 (fun x : Bool × Bool × (List (Int × Int)) => [D.v (.bool x.1), D.v (.bool x.2.1), D.s 2 (List.map (fun el81 : Int × Int => [D.v (.int .i64 el81.1), D.v (.int .i64 el81.2)]) x.2.2)]) (fun x => True ∧ True ∧ ((x.2.2).length ≤ maxLen ∧ ∀ el81 ∈ x.2.2, (Lit.int .i64 el81.1).wf = true ∧ (Lit.int .i64 el81.2).wf = true)) := (opens_struct Try.underlying24 (by kernel_rfl) (by kernel_rfl) (parts_cons strikeBrings_op4 (parts_cons strikeBrings_op4 (parts_cons strikeBrings_op22 parts_nil)))).map (fun p => (p.1, p.2.1, p.2.2.1)) (fun _ => rfl) (fun p h => ⟨h.1, h.2.1, h.2.2.1⟩)
theorem strikeBrings_op49 : Opens Try.prog 49 2 (fun x : Int × Int => [D.v (.int .i64 x.1), D.v (.int .i64 x.2)]) (fun x => (Lit.int .i64 x.1).wf = true ∧ (Lit.int .i64 x.2).wf = true) := (opens_array (m := 2) (s := 1) Try.underlying49 (by kernel_rfl) (by kernel_rfl) (parts_cons strikeBrings_op3 (parts_cons strikeBrings_op3 parts_nil))).map (fun p => (p.1, p.2.1)) (fun _ => rfl) (fun p h => ⟨h.1, h.2.1⟩)
theorem strikeBrings_own : ownKnob Try.prog.godebug = none := by kernel_rfl
theorem strikeBrings_laid : laidOutB Try.prog = true := by kernel_rfl
set_option maxRecDepth 100000 in
set_option maxHeartbeats 1000000 in
theorem strikeBrings_lifted (os : Os) (started : os.Started) (H : Type) (enc : TypeId × Value → H) :
    ReturnsInHanded {} Try.checked os 6 .any (Rows.strikeBringsSpec.pre6 enc Try.prog Try.f6 Rows.strikeBringsRow.domain false) (Rows.strikeBringsSpec.post enc Try.prog Try.f6 false true false false) := by
  refine returnsInHanded_of_change (C := Try.checked) strikeBrings_own started (by kernel_rfl) Try.func6
    (ChangeSpec.witness6 (enc := enc) (C := Try.checked) false ⟨#[], #[.agg #[.bool false, .bool false, .slice none 0 0], .agg #[.int .i64 0, .int .i64 0], .int .i64 0], []⟩ 8 (by kernel_rfl) (by kernel_rfl) (by kernel_rfl) (by kernel_rfl)) ?_
  intro W base args ds gs before hval0 hW hcnd _
  have hval : ∀ (j : Nat) t v, Try.f6.params[j]? = some t → args[j]? = some v → Value.okWide Try.prog W .any base t v := hval0
  have hW' := hW
  obtain ⟨p, q, hA0, hV, rfl, hfz, hnd⟩ := hW
  have hA : DataW.TrodAll enc Try.prog W 0 (fun _ => true) true Try.f6.params.toList args.toList ds p := hA0
  rw [Try.params6] at hA hval
  obtain ⟨v0, vs0, d0, ds0, p0, q0, hargs, rfl, rfl, h0, r0⟩ := trodAll_cons hA
  obtain ⟨v1, vs1, d1, ds1, p1, q1, rfl, rfl, rfl, h1, r1⟩ := trodAll_cons r0
  obtain ⟨v2, vs2, d2, ds2, p2, q2, rfl, rfl, rfl, h2, r2⟩ := trodAll_cons r1
  obtain ⟨rfl, rfl, rfl⟩ := trodAll_nil r2
  obtain rfl : args = #[v0, v1, v2] := by cases args; simp_all
  obtain ⟨rfl, rfl⟩ := trodVars_none hV
  have k0 := h0
  have lt0 : ∀ x ∈ p0, x.block < W.heap.size := by obtain ⟨m, hm⟩ := k0; exact DataW.trod_lt m _ _ _ hm
  have k1 := h1
  have lt1 : ∀ x ∈ p1, x.block < W.heap.size := by obtain ⟨m, hm⟩ := k1; exact DataW.trod_lt m _ _ _ hm
  have k2 := h2
  have lt2 : ∀ x ∈ p2, x.block < W.heap.size := by obtain ⟨m, hm⟩ := k2; exact DataW.trod_lt m _ _ _ hm
  obtain ⟨a0, cs0, w0, rfl, ok0⟩ := arg_agg (agg_struct Try.underlying24 (hval 0 24 v0 rfl rfl)) strikeBrings_op24 h0
  obtain ⟨u0_0, cs0_0, rfl, e0_0, ok0_0⟩ := okL_cons ok0
  cases e0_0
  obtain ⟨u0_1, cs0_1, rfl, e0_1, ok0_1⟩ := okL_cons ok0_0
  cases e0_1
  obtain ⟨u0_2, cs0_2, rfl, e0_2, ok0_2⟩ := okL_cons ok0_1
  obtain ⟨b0_2, n0_2, c0_2, rfl⟩ := reads_slice e0_2
  cases okL_nil ok0_2
  obtain ⟨a1, cs1, w1, rfl, ok1⟩ := arg_agg (agg_array Try.underlying49 (hval 1 49 v1 rfl rfl)) strikeBrings_op49 h1
  obtain ⟨u1_0, cs1_0, rfl, e1_0, ok1_0⟩ := okL_cons ok1
  cases e1_0
  obtain ⟨u1_1, cs1_1, rfl, e1_1, ok1_1⟩ := okL_cons ok1_0
  cases e1_1
  cases okL_nil ok1_1
  obtain ⟨a2, rfl, _, _, w2⟩ := open_int Try.underlying3 (hval 2 3 v2 rfl rfl) h2
  clear hA0 hval0
  obtain ⟨fuel, hev⟩ := strikeBrings_evx w0 w1 w2
  refine (FC.run (fc_law05_StrikeBrings hev) (fun k => if k = 0 then (.slice b0_2 n0_2 c0_2) else .bool false) rfl (fun y hy => ?_)).mono fun e W' ⟨he, bel⟩ => ?_
  · simp only [List.mem_cons, List.not_mem_nil, or_false] at hy
    rcases hy with rfl
    · exact e0_2
  subst he
  exact ⟨_, rfl, _, _, _, [], _, [], hW', trodAll_mk1 (shut_bool Try.underlying4 _), (trodAll_cons_mk (Below.trod strikeBrings_laid (by kernel_rfl) (of_decide_eq_true (by kernel_rfl)) k0 bel lt0) (trodAll_cons_mk (Below.trod strikeBrings_laid (by kernel_rfl) (of_decide_eq_true (by kernel_rfl)) k1 bel lt1) (trodAll_cons_mk (Below.trod strikeBrings_laid (by kernel_rfl) (of_decide_eq_true (by kernel_rfl)) k2 bel lt2) trodAll_mk0))), rfl, bel.frame _, fun h => by cases h⟩

theorem strikeBrings_q1 : Try.checked.prog.funcNamed Rows.strikeBringsRow.func = some 6 := by kernel_rfl
theorem strikeBrings_and {a b : Bool} (ha : a = true) (hb : b = true) : (a && b) = true := by rw [ha, hb]; rfl
set_option maxHeartbeats 4000000 in
theorem strikeBrings_q2 : joinedFacts Try.checked.prog 6 Try.f6 Rows.strikeBringsSpec Rows.strikeBringsRow = true := by
  unfold joinedFacts
  exact strikeBrings_and (strikeBrings_and (strikeBrings_and (strikeBrings_and (strikeBrings_and (strikeBrings_and (strikeBrings_and (strikeBrings_and (strikeBrings_and (strikeBrings_and (strikeBrings_and (strikeBrings_and (strikeBrings_and (strikeBrings_and (strikeBrings_and (strikeBrings_and (strikeBrings_and (strikeBrings_and (strikeBrings_and (strikeBrings_and (strikeBrings_and (strikeBrings_and (strikeBrings_and (strikeBrings_and (strikeBrings_and (strikeBrings_and (strikeBrings_and (strikeBrings_and (strikeBrings_and (strikeBrings_and (strikeBrings_and (by as_aux_lemma => kernel_rfl) (by as_aux_lemma => kernel_rfl)) (by as_aux_lemma => kernel_rfl)) (by as_aux_lemma => kernel_rfl)) (by as_aux_lemma => kernel_rfl)) (by as_aux_lemma => kernel_rfl)) (by as_aux_lemma => kernel_rfl)) (by as_aux_lemma => kernel_rfl)) (by as_aux_lemma => kernel_rfl)) (by as_aux_lemma => kernel_rfl)) (by as_aux_lemma => kernel_rfl)) (by as_aux_lemma => kernel_rfl)) (by as_aux_lemma => kernel_rfl)) (by as_aux_lemma => kernel_rfl)) (by as_aux_lemma => kernel_rfl)) (by as_aux_lemma => kernel_rfl)) (by as_aux_lemma => kernel_rfl)) (by as_aux_lemma => kernel_rfl)) (by as_aux_lemma => kernel_rfl)) (by as_aux_lemma => kernel_rfl)) (by as_aux_lemma => kernel_rfl)) (by as_aux_lemma => kernel_rfl)) (by as_aux_lemma => kernel_rfl)) (by as_aux_lemma => kernel_rfl)) (by as_aux_lemma => kernel_rfl)) (by as_aux_lemma => kernel_rfl)) (by as_aux_lemma => kernel_rfl)) (by as_aux_lemma => kernel_rfl)) (by as_aux_lemma => kernel_rfl)) (by as_aux_lemma => kernel_rfl)) (by as_aux_lemma => kernel_rfl)) (by as_aux_lemma => kernel_rfl)
theorem strikeBrings_q3 : Try.f6.isInstance Try.checked.prog Rows.strikeBringsRow.origin Rows.strikeBringsRow.targs := (of_decide_eq_true (by kernel_rfl))
theorem strikeBrings_q4 : Try.f6.isWrapper Try.checked.prog Rows.strikeBringsRow.wrapper Rows.strikeBringsRow.mainSum := (by unfold Func.isWrapper; first | (rw [if_pos (by decide +kernel)]; kernel_rfl) | (rw [if_neg (by decide +kernel)]; exact ⟨rfl, rfl⟩))
theorem strikeBrings_q5 : ∀ os : Os, os.Started → ∀ (H : Type) (enc : TypeId × Value → H), (∀ a b, enc a = enc b → a = b) →
    ReturnsInHanded Rows.strikeBringsRow.assume Try.checked os 6 .any (Rows.strikeBringsRow.pre enc Try.checked.prog Try.f6 (OpenSpec.ofChange Rows.strikeBringsSpec)) (Rows.strikeBringsSpec.post enc Try.checked.prog Try.f6 Rows.strikeBringsRow.apart Rows.strikeBringsRow.fresh Rows.strikeBringsRow.handsOn Rows.strikeBringsRow.again) := fun os started H enc _ => strikeBrings_lifted os started H enc
theorem strikeBrings_said : Rows.StrikeBringsSaid :=
  OpenClaim.holds_of_wide 6 Try.f6 rfl rfl rfl rfl rfl rfl rfl ⟨rfl, rfl, rfl, rfl, rfl⟩ rfl rfl rfl rfl rfl strikeBrings_q1 Try.func6 strikeBrings_q2 strikeBrings_q3 strikeBrings_q4 strikeBrings_q5
end Go.Proofs.Ytglgkcfgjaoabaa.Sy
namespace Go.Proofs.Ytglgkcfgjaoabaa
theorem strikeBrings_holds : Rows.StrikeBringsSaid := Sy.strikeBrings_said
#print axioms strikeBrings_holds
end Go.Proofs.Ytglgkcfgjaoabaa
