/- The rounds of Fewest keep the law and wind each tower once; no other way to share the towers needs fewer winders, or as many and fewer minutes. -/
import Derived.Test.YtohjpfkcahlfkaaRows
import Derived.Test.YtohjpfkcahlfkaaPhEvRoundShared
import Derived.Test.YtohjpfkcahlfkaaPhSymO
import Derived.Test.YtohjpfkcahlfkaaChecked
import Derived.ProofKit
import Derived.ShutString
import Derived.ChangeOld
set_option linter.unusedSimpArgs false
set_option linter.unusedVariables false
namespace Go.Proofs.Ytohjpfkcahlfkaa.Sy
open Go.ChangeShapes Go.WideShapes Go.ChangeAt Go.RowKit

theorem roundShared_op5 : Opens Try.prog 5 1 (fun x : Int => [D.v (.int .u8 x)]) (fun x => (Lit.int .u8 x).wf = true) := opens_int Try.underlying5 (by kernel_rfl)
theorem roundShared_op90 : Opens Try.prog 90 4 (fun x : Int × Int × Int × Int => [D.v (.int .u8 x.1), D.v (.int .u8 x.2.1), D.v (.int .u8 x.2.2.1), D.v (.int .u8 x.2.2.2)]) (fun x => (Lit.int .u8 x.1).wf = true ∧ (Lit.int .u8 x.2.1).wf = true ∧ (Lit.int .u8 x.2.2.1).wf = true ∧ (Lit.int .u8 x.2.2.2).wf = true) := (opens_array (m := 4) (s := 1) Try.underlying90 (by kernel_rfl) (by kernel_rfl) (parts_cons roundShared_op5 (parts_cons roundShared_op5 (parts_cons roundShared_op5 (parts_cons roundShared_op5 parts_nil))))).map (fun p => (p.1, p.2.1, p.2.2.1, p.2.2.2.1)) (fun _ => rfl) (fun p h => ⟨h.1, h.2.1, h.2.2.1, h.2.2.2.1⟩)
theorem roundShared_op52 : Opens Try.prog 52 1 (fun x : (List (Int × Int × Int × Int)) => [D.s 4 (List.map (fun el90 : Int × Int × Int × Int => [D.v (.int .u8 el90.1), D.v (.int .u8 el90.2.1), D.v (.int .u8 el90.2.2.1), D.v (.int .u8 el90.2.2.2)]) x)]) (fun x => ((x).length ≤ maxLen ∧ ∀ el90 ∈ x, (Lit.int .u8 el90.1).wf = true ∧ (Lit.int .u8 el90.2.1).wf = true ∧ (Lit.int .u8 el90.2.2.1).wf = true ∧ (Lit.int .u8 el90.2.2.2).wf = true)) := opens_slice Try.underlying52 (by kernel_rfl) (by decide) roundShared_op90
theorem roundShared_op51 : Opens Try.prog 51 1 (fun x : (List Int) => [D.s 1 (List.map (fun el5 : Int => [D.v (.int .u8 el5)]) x)]) (fun x => ((x).length ≤ maxLen ∧ ∀ el5 ∈ x, (Lit.int .u8 el5).wf = true)) := opens_slice Try.underlying51 (by kernel_rfl) (by decide) roundShared_op5
theorem roundShared_op89 : Opens Try.prog 89 5 (fun x : Int × Int × Int × Int × Int => [D.v (.int .u8 x.1), D.v (.int .u8 x.2.1), D.v (.int .u8 x.2.2.1), D.v (.int .u8 x.2.2.2.1), D.v (.int .u8 x.2.2.2.2)]) (fun x => (Lit.int .u8 x.1).wf = true ∧ (Lit.int .u8 x.2.1).wf = true ∧ (Lit.int .u8 x.2.2.1).wf = true ∧ (Lit.int .u8 x.2.2.2.1).wf = true ∧ (Lit.int .u8 x.2.2.2.2).wf = true) := (opens_array (m := 5) (s := 1) Try.underlying89 (by kernel_rfl) (by kernel_rfl) (parts_cons roundShared_op5 (parts_cons roundShared_op5 (parts_cons roundShared_op5 (parts_cons roundShared_op5 (parts_cons roundShared_op5 parts_nil)))))).map (fun p => (p.1, p.2.1, p.2.2.1, p.2.2.2.1, p.2.2.2.2.1)) (fun _ => rfl) (fun p h => ⟨h.1, h.2.1, h.2.2.1, h.2.2.2.1, h.2.2.2.2.1⟩)
theorem roundShared_op50 : Opens Try.prog 50 1 (fun x : (List (Int × Int × Int × Int × Int)) => [D.s 5 (List.map (fun el89 : Int × Int × Int × Int × Int => [D.v (.int .u8 el89.1), D.v (.int .u8 el89.2.1), D.v (.int .u8 el89.2.2.1), D.v (.int .u8 el89.2.2.2.1), D.v (.int .u8 el89.2.2.2.2)]) x)]) (fun x => ((x).length ≤ maxLen ∧ ∀ el89 ∈ x, (Lit.int .u8 el89.1).wf = true ∧ (Lit.int .u8 el89.2.1).wf = true ∧ (Lit.int .u8 el89.2.2.1).wf = true ∧ (Lit.int .u8 el89.2.2.2.1).wf = true ∧ (Lit.int .u8 el89.2.2.2.2).wf = true)) := opens_slice Try.underlying50 (by kernel_rfl) (by decide) roundShared_op89
theorem roundShared_op54 : Opens Try.prog 54 5 (fun x : (List (Int × Int × Int × Int × Int)) × (List Int) × (List (Int × Int × Int × Int)) × Int × Int => [D.s 5 (List.map (fun el89 : Int × Int × Int × Int × Int => [D.v (.int .u8 el89.1), D.v (.int .u8 el89.2.1), D.v (.int .u8 el89.2.2.1), D.v (.int .u8 el89.2.2.2.1), D.v (.int .u8 el89.2.2.2.2)]) x.1), D.s 1 (List.map (fun el5 : Int => [D.v (.int .u8 el5)]) x.2.1), D.s 4 (List.map (fun el90 : Int × Int × Int × Int => [D.v (.int .u8 el90.1), D.v (.int .u8 el90.2.1), D.v (.int .u8 el90.2.2.1), D.v (.int .u8 el90.2.2.2)]) x.2.2.1), D.v (.int .u8 x.2.2.2.1), D.v (.int .u8 x.2.2.2.2)]) (fun x => ((x.1).length ≤ maxLen ∧ ∀ el89 ∈ x.1, (Lit.int .u8 el89.1).wf = true ∧ (Lit.int .u8 el89.2.1).wf = true ∧ (Lit.int .u8 el89.2.2.1).wf = true ∧ (Lit.int .u8 el89.2.2.2.1).wf = true ∧ (Lit.int .u8 el89.2.2.2.2).wf = true) ∧ ((x.2.1).length ≤ maxLen ∧ ∀ el5 ∈ x.2.1, (Lit.int .u8 el5).wf = true) ∧ ((x.2.2.1).length ≤ maxLen ∧ ∀ el90 ∈ x.2.2.1, (Lit.int .u8 el90.1).wf = true ∧ (Lit.int .u8 el90.2.1).wf = true ∧ (Lit.int .u8 el90.2.2.1).wf = true ∧ (Lit.int .u8 el90.2.2.2).wf = true) ∧ (Lit.int .u8 x.2.2.2.1).wf = true ∧ (Lit.int .u8 x.2.2.2.2).wf = true) := (opens_struct Try.underlying54 (by kernel_rfl) (by kernel_rfl) (parts_cons roundShared_op50 (parts_cons roundShared_op51 (parts_cons roundShared_op52 (parts_cons roundShared_op5 (parts_cons roundShared_op5 parts_nil)))))).map (fun p => (p.1, p.2.1, p.2.2.1, p.2.2.2.1, p.2.2.2.2.1)) (fun _ => rfl) (fun p h => ⟨h.1, h.2.1, h.2.2.1, h.2.2.2.1, h.2.2.2.2.1⟩)
theorem roundShared_op55 : Opens Try.prog 55 2 (fun x : (List Int) × (List Int) => [D.s 1 (List.map (fun el5 : Int => [D.v (.int .u8 el5)]) x.1), D.s 1 (List.map (fun el5 : Int => [D.v (.int .u8 el5)]) x.2)]) (fun x => ((x.1).length ≤ maxLen ∧ ∀ el5 ∈ x.1, (Lit.int .u8 el5).wf = true) ∧ ((x.2).length ≤ maxLen ∧ ∀ el5 ∈ x.2, (Lit.int .u8 el5).wf = true)) := (opens_array (m := 2) (s := 1) Try.underlying55 (by kernel_rfl) (by kernel_rfl) (parts_cons roundShared_op51 (parts_cons roundShared_op51 parts_nil))).map (fun p => (p.1, p.2.1)) (fun _ => rfl) (fun p h => ⟨h.1, h.2.1⟩)
theorem roundShared_own : ownKnob Try.prog.godebug = none := by kernel_rfl
theorem roundShared_laid : laidOutB Try.prog = true := by kernel_rfl
set_option maxRecDepth 100000 in
set_option maxHeartbeats 1000000 in
theorem roundShared_lifted (os : Os) (started : os.Started) (H : Type) (enc : TypeId × Value → H) :
    ReturnsInHanded {} Try.checked os 5 .any (Rows.roundSharedSpec.pre6 enc Try.prog Try.f5 Rows.roundSharedRow.domain false) (Rows.roundSharedSpec.post enc Try.prog Try.f5 false true false false) := by
  refine returnsInHanded_of_change (C := Try.checked) roundShared_own started (by kernel_rfl) Try.func5
    (ChangeSpec.witness6 (enc := enc) (C := Try.checked) false ⟨#[], #[.agg #[.slice none 0 0, .slice none 0 0, .slice none 0 0, .int .u8 0, .int .u8 0], .agg #[.slice none 0 0, .slice none 0 0]], []⟩ 8 (by kernel_rfl) (by kernel_rfl) (by kernel_rfl) (by kernel_rfl)) ?_
  intro W base args ds gs before hval0 hW hcnd _
  have hval : ∀ (j : Nat) t v, Try.f5.params[j]? = some t → args[j]? = some v → Value.okWide Try.prog W .any base t v := hval0
  have hW' := hW
  obtain ⟨p, q, hA0, hV, rfl, hfz, hnd⟩ := hW
  have hA : DataW.TrodAll enc Try.prog W 0 (fun _ => true) true Try.f5.params.toList args.toList ds p := hA0
  rw [Try.params5] at hA hval
  obtain ⟨v0, vs0, d0, ds0, p0, q0, hargs, rfl, rfl, h0, r0⟩ := trodAll_cons hA
  obtain ⟨v1, vs1, d1, ds1, p1, q1, rfl, rfl, rfl, h1, r1⟩ := trodAll_cons r0
  obtain ⟨rfl, rfl, rfl⟩ := trodAll_nil r1
  obtain rfl : args = #[v0, v1] := by cases args; simp_all
  obtain ⟨rfl, rfl⟩ := trodVars_none hV
  have k0 := h0
  have lt0 : ∀ x ∈ p0, x.block < W.heap.size := by obtain ⟨m, hm⟩ := k0; exact DataW.trod_lt m _ _ _ hm
  have k1 := h1
  have lt1 : ∀ x ∈ p1, x.block < W.heap.size := by obtain ⟨m, hm⟩ := k1; exact DataW.trod_lt m _ _ _ hm
  obtain ⟨a0, cs0, w0, rfl, ok0⟩ := arg_agg (agg_struct Try.underlying54 (hval 0 54 v0 rfl rfl)) roundShared_op54 h0
  obtain ⟨u0_0, cs0_0, rfl, e0_0, ok0_0⟩ := okL_cons ok0
  obtain ⟨b0_0, n0_0, c0_0, rfl⟩ := reads_slice e0_0
  obtain ⟨u0_1, cs0_1, rfl, e0_1, ok0_1⟩ := okL_cons ok0_0
  obtain ⟨b0_1, n0_1, c0_1, rfl⟩ := reads_slice e0_1
  obtain ⟨u0_2, cs0_2, rfl, e0_2, ok0_2⟩ := okL_cons ok0_1
  obtain ⟨b0_2, n0_2, c0_2, rfl⟩ := reads_slice e0_2
  obtain ⟨u0_3, cs0_3, rfl, e0_3, ok0_3⟩ := okL_cons ok0_2
  cases e0_3
  obtain ⟨u0_4, cs0_4, rfl, e0_4, ok0_4⟩ := okL_cons ok0_3
  cases e0_4
  cases okL_nil ok0_4
  obtain ⟨a1, cs1, w1, rfl, ok1⟩ := arg_agg (agg_array Try.underlying55 (hval 1 55 v1 rfl rfl)) roundShared_op55 h1
  obtain ⟨u1_0, cs1_0, rfl, e1_0, ok1_0⟩ := okL_cons ok1
  obtain ⟨b1_0, n1_0, c1_0, rfl⟩ := reads_slice e1_0
  obtain ⟨u1_1, cs1_1, rfl, e1_1, ok1_1⟩ := okL_cons ok1_0
  obtain ⟨b1_1, n1_1, c1_1, rfl⟩ := reads_slice e1_1
  cases okL_nil ok1_1
  clear hA0 hval0
  obtain ⟨fuel, hev⟩ := roundShared_evx w0 w1
  refine (FC.run (fc_law11_RoundShared hev) (fun k => if k = 0 then (.slice b0_0 n0_0 c0_0) else if k = 1 then (.slice b0_1 n0_1 c0_1) else if k = 2 then (.slice b0_2 n0_2 c0_2) else if k = 3 then (.slice b1_0 n1_0 c1_0) else if k = 4 then (.slice b1_1 n1_1 c1_1) else .bool false) rfl (fun y hy => ?_)).mono fun e W' ⟨he, bel⟩ => ?_
  · simp only [List.mem_cons, List.not_mem_nil, or_false] at hy
    rcases hy with rfl | rfl | rfl | rfl | rfl
    · exact e0_0
    · exact e0_1
    · exact e0_2
    · exact e1_0
    · exact e1_1
  subst he
  exact ⟨_, rfl, _, _, _, [], _, [], hW', trodAll_mk1 (shut_bool Try.underlying4 _), (trodAll_cons_mk (Below.trod roundShared_laid (by kernel_rfl) (of_decide_eq_true (by kernel_rfl)) k0 bel lt0) (trodAll_cons_mk (Below.trod roundShared_laid (by kernel_rfl) (of_decide_eq_true (by kernel_rfl)) k1 bel lt1) trodAll_mk0)), rfl, bel.frame _, fun h => by cases h⟩

theorem roundShared_q1 : Try.checked.prog.funcNamed Rows.roundSharedRow.func = some 5 := by kernel_rfl
theorem roundShared_and {a b : Bool} (ha : a = true) (hb : b = true) : (a && b) = true := by rw [ha, hb]; rfl
set_option maxHeartbeats 4000000 in
theorem roundShared_q2 : joinedFacts Try.checked.prog 5 Try.f5 Rows.roundSharedSpec Rows.roundSharedRow = true := by
  unfold joinedFacts
  exact roundShared_and (roundShared_and (roundShared_and (roundShared_and (roundShared_and (roundShared_and (roundShared_and (roundShared_and (roundShared_and (roundShared_and (roundShared_and (roundShared_and (roundShared_and (roundShared_and (roundShared_and (roundShared_and (roundShared_and (roundShared_and (roundShared_and (roundShared_and (roundShared_and (roundShared_and (roundShared_and (roundShared_and (roundShared_and (roundShared_and (roundShared_and (roundShared_and (roundShared_and (roundShared_and (roundShared_and (by as_aux_lemma => kernel_rfl) (by as_aux_lemma => kernel_rfl)) (by as_aux_lemma => kernel_rfl)) (by as_aux_lemma => kernel_rfl)) (by as_aux_lemma => kernel_rfl)) (by as_aux_lemma => kernel_rfl)) (by as_aux_lemma => kernel_rfl)) (by as_aux_lemma => kernel_rfl)) (by as_aux_lemma => kernel_rfl)) (by as_aux_lemma => kernel_rfl)) (by as_aux_lemma => kernel_rfl)) (by as_aux_lemma => kernel_rfl)) (by as_aux_lemma => kernel_rfl)) (by as_aux_lemma => kernel_rfl)) (by as_aux_lemma => kernel_rfl)) (by as_aux_lemma => kernel_rfl)) (by as_aux_lemma => kernel_rfl)) (by as_aux_lemma => kernel_rfl)) (by as_aux_lemma => kernel_rfl)) (by as_aux_lemma => kernel_rfl)) (by as_aux_lemma => kernel_rfl)) (by as_aux_lemma => kernel_rfl)) (by as_aux_lemma => kernel_rfl)) (by as_aux_lemma => kernel_rfl)) (by as_aux_lemma => kernel_rfl)) (by as_aux_lemma => kernel_rfl)) (by as_aux_lemma => kernel_rfl)) (by as_aux_lemma => kernel_rfl)) (by as_aux_lemma => kernel_rfl)) (by as_aux_lemma => kernel_rfl)) (by as_aux_lemma => kernel_rfl)) (by as_aux_lemma => kernel_rfl)
theorem roundShared_q3 : Try.f5.isInstance Try.checked.prog Rows.roundSharedRow.origin Rows.roundSharedRow.targs := (of_decide_eq_true (by kernel_rfl))
theorem roundShared_q4 : Try.f5.isWrapper Try.checked.prog Rows.roundSharedRow.wrapper Rows.roundSharedRow.mainSum := (by unfold Func.isWrapper; first | (rw [if_pos (by decide +kernel)]; kernel_rfl) | (rw [if_neg (by decide +kernel)]; exact ⟨rfl, rfl⟩))
theorem roundShared_q5 : ∀ os : Os, os.Started → ∀ (H : Type) (enc : TypeId × Value → H), (∀ a b, enc a = enc b → a = b) →
    ReturnsInHanded Rows.roundSharedRow.assume Try.checked os 5 .any (Rows.roundSharedRow.pre enc Try.checked.prog Try.f5 (OpenSpec.ofChange Rows.roundSharedSpec)) (Rows.roundSharedSpec.post enc Try.checked.prog Try.f5 Rows.roundSharedRow.apart Rows.roundSharedRow.fresh Rows.roundSharedRow.handsOn Rows.roundSharedRow.again) := fun os started H enc _ => roundShared_lifted os started H enc
theorem roundShared_said : Rows.RoundSharedSaid :=
  OpenClaim.holds_of_wide 5 Try.f5 rfl rfl rfl rfl rfl rfl rfl ⟨rfl, rfl, rfl, rfl, rfl⟩ rfl rfl rfl rfl rfl roundShared_q1 Try.func5 roundShared_q2 roundShared_q3 roundShared_q4 roundShared_q5
end Go.Proofs.Ytohjpfkcahlfkaa.Sy
namespace Go.Proofs.Ytohjpfkcahlfkaa
theorem roundShared_holds : Rows.RoundSharedSaid := Sy.roundShared_said
#print axioms roundShared_holds
end Go.Proofs.Ytohjpfkcahlfkaa
