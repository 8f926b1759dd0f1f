/- What plans do. -/
import Derived.Test.YtglgkcfgjaoabaaRows
import Derived.Test.YtglgkcfgjaoabaaEvStrikePlays
import Derived.Test.YtglgkcfgjaoabaaSymO
import Derived.Test.YtglgkcfgjaoabaaChecked
import Derived.ProofKit
import Derived.ShutString
import Derived.ChangeOld
set_option linter.unusedSimpArgs false
set_option linter.unusedVariables false
namespace Go.Proofs.Ytglgkcfgjaoabaa.Sy
open Go.ChangeShapes Go.WideShapes Go.ChangeAt Go.RowKit

theorem strikePlays_op3 : Opens Try.prog 3 1 (fun x : Int => [D.v (.int .i64 x)]) (fun x => (Lit.int .i64 x).wf = true) := opens_int Try.underlying3 (by kernel_rfl)
theorem strikePlays_op81 : Opens Try.prog 81 2 (fun x : Int × Int => [D.v (.int .i64 x.1), D.v (.int .i64 x.2)]) (fun x => (Lit.int .i64 x.1).wf = true ∧ (Lit.int .i64 x.2).wf = true) := (opens_struct Try.underlying81 (by kernel_rfl) (by kernel_rfl) (parts_cons strikePlays_op3 (parts_cons strikePlays_op3 parts_nil))).map (fun p => (p.1, p.2.1)) (fun _ => rfl) (fun p h => ⟨h.1, h.2.1⟩)
theorem strikePlays_op22 : Opens Try.prog 22 1 (fun x : (List (Int × Int)) => [D.s 2 (List.map (fun el81 : Int × Int => [D.v (.int .i64 el81.1), D.v (.int .i64 el81.2)]) x)]) (fun x => ((x).length ≤ maxLen ∧ ∀ el81 ∈ x, (Lit.int .i64 el81.1).wf = true ∧ (Lit.int .i64 el81.2).wf = true)) := opens_slice Try.underlying22 (by kernel_rfl) (by decide) strikePlays_op81
theorem strikePlays_op4 : Opens Try.prog 4 1 (fun x : Bool => [D.v (.bool x)]) (fun x => True) := opens_bool Try.underlying4 (by kernel_rfl)
theorem strikePlays_op24 : Opens Try.prog 24 3 (fun x : Bool × Bool × (List (Int × Int)) => [D.v (.bool x.1), D.v (.bool x.2.1), D.s 2 (List.map (fun el81 : Int × Int => [D.v (.int .i64 el81.1), D.v (.int .i64 el81.2)]) x.2.2)]) (fun x => True ∧ True ∧ ((x.2.2).length ≤ maxLen ∧ ∀ el81 ∈ x.2.2, (Lit.int .i64 el81.1).wf = true ∧ (Lit.int .i64 el81.2).wf = true)) := (opens_struct Try.underlying24 (by kernel_rfl) (by kernel_rfl) (parts_cons strikePlays_op4 (parts_cons strikePlays_op4 (parts_cons strikePlays_op22 parts_nil)))).map (fun p => (p.1, p.2.1, p.2.2.1)) (fun _ => rfl) (fun p h => ⟨h.1, h.2.1, h.2.2.1⟩)
theorem strikePlays_op49 : Opens Try.prog 49 2 (fun x : Int × Int => [D.v (.int .i64 x.1), D.v (.int .i64 x.2)]) (fun x => (Lit.int .i64 x.1).wf = true ∧ (Lit.int .i64 x.2).wf = true) := (opens_array (m := 2) (s := 1) Try.underlying49 (by kernel_rfl) (by kernel_rfl) (parts_cons strikePlays_op3 (parts_cons strikePlays_op3 parts_nil))).map (fun p => (p.1, p.2.1)) (fun _ => rfl) (fun p h => ⟨h.1, h.2.1⟩)
theorem strikePlays_op73 : Opens Try.prog 73 2 (fun x : Int × Bool => [D.v (.int .i64 x.1), D.v (.bool x.2)]) (fun x => (Lit.int .i64 x.1).wf = true ∧ True) := (opens_struct Try.underlying73 (by kernel_rfl) (by kernel_rfl) (parts_cons strikePlays_op3 (parts_cons strikePlays_op4 parts_nil))).map (fun p => (p.1, p.2.1)) (fun _ => rfl) (fun p h => ⟨h.1, h.2.1⟩)
theorem strikePlays_op50 : Opens Try.prog 50 1 (fun x : (List (Int × Bool)) => [D.s 2 (List.map (fun el73 : Int × Bool => [D.v (.int .i64 el73.1), D.v (.bool el73.2)]) x)]) (fun x => ((x).length ≤ maxLen ∧ ∀ el73 ∈ x, (Lit.int .i64 el73.1).wf = true ∧ True)) := opens_slice Try.underlying50 (by kernel_rfl) (by decide) strikePlays_op73
theorem strikePlays_own : ownKnob Try.prog.godebug = none := by kernel_rfl
theorem strikePlays_laid : laidOutB Try.prog = true := by kernel_rfl
set_option maxRecDepth 100000 in
set_option maxHeartbeats 1000000 in
theorem strikePlays_lifted (os : Os) (started : os.Started) (H : Type) (enc : TypeId × Value → H) :
    ReturnsInHanded {} Try.checked os 5 .any (Rows.strikePlaysSpec.pre6 enc Try.prog Try.f5 Rows.strikePlaysRow.domain false) (Rows.strikePlaysSpec.post enc Try.prog Try.f5 false true false false) := by
  refine returnsInHanded_of_change (C := Try.checked) strikePlays_own started (by kernel_rfl) Try.func5
    (ChangeSpec.witness6 (enc := enc) (C := Try.checked) false ⟨#[], #[.agg #[.bool false, .bool false, .slice none 0 0], .agg #[.int .i64 0, .int .i64 0], .slice none 0 0], []⟩ 8 (by kernel_rfl) (by kernel_rfl) (by kernel_rfl) (by kernel_rfl)) ?_
  intro W base args ds gs before hval0 hW hcnd _
  have hval : ∀ (j : Nat) t v, Try.f5.params[j]? = some t → args[j]? = some v → Value.okWide Try.prog W .any base t v := hval0
  have hW' := hW
  obtain ⟨p, q, hA0, hV, rfl, hfz, hnd⟩ := hW
  have hA : DataW.TrodAll enc Try.prog W 0 (fun _ => true) true Try.f5.params.toList args.toList ds p := hA0
  rw [Try.params5] at hA hval
  obtain ⟨v0, vs0, d0, ds0, p0, q0, hargs, rfl, rfl, h0, r0⟩ := trodAll_cons hA
  obtain ⟨v1, vs1, d1, ds1, p1, q1, rfl, rfl, rfl, h1, r1⟩ := trodAll_cons r0
  obtain ⟨v2, vs2, d2, ds2, p2, q2, rfl, rfl, rfl, h2, r2⟩ := trodAll_cons r1
  obtain ⟨rfl, rfl, rfl⟩ := trodAll_nil r2
  obtain rfl : args = #[v0, v1, v2] := by cases args; simp_all
  obtain ⟨rfl, rfl⟩ := trodVars_none hV
  have k0 := h0
  have lt0 : ∀ x ∈ p0, x.block < W.heap.size := by obtain ⟨m, hm⟩ := k0; exact DataW.trod_lt m _ _ _ hm
  have k1 := h1
  have lt1 : ∀ x ∈ p1, x.block < W.heap.size := by obtain ⟨m, hm⟩ := k1; exact DataW.trod_lt m _ _ _ hm
  have k2 := h2
  have lt2 : ∀ x ∈ p2, x.block < W.heap.size := by obtain ⟨m, hm⟩ := k2; exact DataW.trod_lt m _ _ _ hm
  obtain ⟨a0, cs0, w0, rfl, ok0⟩ := arg_agg (agg_struct Try.underlying24 (hval 0 24 v0 rfl rfl)) strikePlays_op24 h0
  obtain ⟨u0_0, cs0_0, rfl, e0_0, ok0_0⟩ := okL_cons ok0
  cases e0_0
  obtain ⟨u0_1, cs0_1, rfl, e0_1, ok0_1⟩ := okL_cons ok0_0
  cases e0_1
  obtain ⟨u0_2, cs0_2, rfl, e0_2, ok0_2⟩ := okL_cons ok0_1
  obtain ⟨b0_2, n0_2, c0_2, rfl⟩ := reads_slice e0_2
  cases okL_nil ok0_2
  obtain ⟨a1, cs1, w1, rfl, ok1⟩ := arg_agg (agg_array Try.underlying49 (hval 1 49 v1 rfl rfl)) strikePlays_op49 h1
  obtain ⟨u1_0, cs1_0, rfl, e1_0, ok1_0⟩ := okL_cons ok1
  cases e1_0
  obtain ⟨u1_1, cs1_1, rfl, e1_1, ok1_1⟩ := okL_cons ok1_0
  cases e1_1
  cases okL_nil ok1_1
  obtain ⟨a2, w2, rd2⟩ := arg_slice Try.underlying50 strikePlays_op50 (hval 2 50 v2 rfl rfl) h2
  obtain ⟨b2, n2, c2, rfl⟩ := reads_slice rd2
  clear hA0 hval0
  obtain ⟨fuel, hev⟩ := strikePlays_evx w0 w1 w2
  refine (FC.run (fc_law05_StrikePlays hev) (fun k => if k = 0 then (.slice b0_2 n0_2 c0_2) else if k = 1 then (.slice b2 n2 c2) else .bool false) rfl (fun y hy => ?_)).mono fun e W' ⟨he, bel⟩ => ?_
  · simp only [List.mem_cons, List.not_mem_nil, or_false] at hy
    rcases hy with rfl | rfl
    · exact e0_2
    · exact rd2
  subst he
  exact ⟨_, rfl, _, _, _, [], _, [], hW', trodAll_mk1 (shut_bool Try.underlying4 _), (trodAll_cons_mk (Below.trod strikePlays_laid (by kernel_rfl) (of_decide_eq_true (by kernel_rfl)) k0 bel lt0) (trodAll_cons_mk (Below.trod strikePlays_laid (by kernel_rfl) (of_decide_eq_true (by kernel_rfl)) k1 bel lt1) (trodAll_cons_mk (Below.trod strikePlays_laid (by kernel_rfl) (of_decide_eq_true (by kernel_rfl)) k2 bel lt2) trodAll_mk0))), rfl, bel.frame _, fun h => by cases h⟩

theorem strikePlays_q1 : Try.checked.prog.funcNamed Rows.strikePlaysRow.func = some 5 := by kernel_rfl
theorem strikePlays_and {a b : Bool} (ha : a = true) (hb : b = true) : (a && b) = true := by rw [ha, hb]; rfl
set_option maxHeartbeats 4000000 in
theorem strikePlays_q2 : joinedFacts Try.checked.prog 5 Try.f5 Rows.strikePlaysSpec Rows.strikePlaysRow = true := by
  unfold joinedFacts
  exact strikePlays_and (strikePlays_and (strikePlays_and (strikePlays_and (strikePlays_and (strikePlays_and (strikePlays_and (strikePlays_and (strikePlays_and (strikePlays_and (strikePlays_and (strikePlays_and (strikePlays_and (strikePlays_and (strikePlays_and (strikePlays_and (strikePlays_and (strikePlays_and (strikePlays_and (strikePlays_and (strikePlays_and (strikePlays_and (strikePlays_and (strikePlays_and (strikePlays_and (strikePlays_and (strikePlays_and (strikePlays_and (strikePlays_and (strikePlays_and (strikePlays_and (by as_aux_lemma => kernel_rfl) (by as_aux_lemma => kernel_rfl)) (by as_aux_lemma => kernel_rfl)) (by as_aux_lemma => kernel_rfl)) (by as_aux_lemma => kernel_rfl)) (by as_aux_lemma => kernel_rfl)) (by as_aux_lemma => kernel_rfl)) (by as_aux_lemma => kernel_rfl)) (by as_aux_lemma => kernel_rfl)) (by as_aux_lemma => kernel_rfl)) (by as_aux_lemma => kernel_rfl)) (by as_aux_lemma => kernel_rfl)) (by as_aux_lemma => kernel_rfl)) (by as_aux_lemma => kernel_rfl)) (by as_aux_lemma => kernel_rfl)) (by as_aux_lemma => kernel_rfl)) (by as_aux_lemma => kernel_rfl)) (by as_aux_lemma => kernel_rfl)) (by as_aux_lemma => kernel_rfl)) (by as_aux_lemma => kernel_rfl)) (by as_aux_lemma => kernel_rfl)) (by as_aux_lemma => kernel_rfl)) (by as_aux_lemma => kernel_rfl)) (by as_aux_lemma => kernel_rfl)) (by as_aux_lemma => kernel_rfl)) (by as_aux_lemma => kernel_rfl)) (by as_aux_lemma => kernel_rfl)) (by as_aux_lemma => kernel_rfl)) (by as_aux_lemma => kernel_rfl)) (by as_aux_lemma => kernel_rfl)) (by as_aux_lemma => kernel_rfl)) (by as_aux_lemma => kernel_rfl)
theorem strikePlays_q3 : Try.f5.isInstance Try.checked.prog Rows.strikePlaysRow.origin Rows.strikePlaysRow.targs := (of_decide_eq_true (by kernel_rfl))
theorem strikePlays_q4 : Try.f5.isWrapper Try.checked.prog Rows.strikePlaysRow.wrapper Rows.strikePlaysRow.mainSum := (by unfold Func.isWrapper; first | (rw [if_pos (by decide +kernel)]; kernel_rfl) | (rw [if_neg (by decide +kernel)]; exact ⟨rfl, rfl⟩))
theorem strikePlays_q5 : ∀ os : Os, os.Started → ∀ (H : Type) (enc : TypeId × Value → H), (∀ a b, enc a = enc b → a = b) →
    ReturnsInHanded Rows.strikePlaysRow.assume Try.checked os 5 .any (Rows.strikePlaysRow.pre enc Try.checked.prog Try.f5 (OpenSpec.ofChange Rows.strikePlaysSpec)) (Rows.strikePlaysSpec.post enc Try.checked.prog Try.f5 Rows.strikePlaysRow.apart Rows.strikePlaysRow.fresh Rows.strikePlaysRow.handsOn Rows.strikePlaysRow.again) := fun os started H enc _ => strikePlays_lifted os started H enc
theorem strikePlays_said : Rows.StrikePlaysSaid :=
  OpenClaim.holds_of_wide 5 Try.f5 rfl rfl rfl rfl rfl rfl rfl ⟨rfl, rfl, rfl, rfl, rfl⟩ rfl rfl rfl rfl rfl strikePlays_q1 Try.func5 strikePlays_q2 strikePlays_q3 strikePlays_q4 strikePlays_q5
end Go.Proofs.Ytglgkcfgjaoabaa.Sy
namespace Go.Proofs.Ytglgkcfgjaoabaa
theorem strikePlays_holds : Rows.StrikePlaysSaid := Sy.strikePlays_said
#print axioms strikePlays_holds
end Go.Proofs.Ytglgkcfgjaoabaa
