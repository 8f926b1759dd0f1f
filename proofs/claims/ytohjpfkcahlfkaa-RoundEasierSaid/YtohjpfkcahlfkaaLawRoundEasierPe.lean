/- With easier rules no best round takes longer, and no more winders are needed. -/
import Derived.Test.YtohjpfkcahlfkaaRows
import Derived.Test.YtohjpfkcahlfkaaPeEvRoundEasier
import Derived.Test.YtohjpfkcahlfkaaPeSymO
import Derived.Test.YtohjpfkcahlfkaaChecked
import Derived.ProofKit
import Derived.ShutString
import Derived.ChangeOld
set_option linter.unusedSimpArgs false
set_option linter.unusedVariables false
namespace Go.Proofs.Ytohjpfkcahlfkaa.Sy
open Go.ChangeShapes Go.WideShapes Go.ChangeAt Go.RowKit

theorem roundEasier_op5 : Opens Try.prog 5 1 (fun x : Int => [D.v (.int .u8 x)]) (fun x => (Lit.int .u8 x).wf = true) := opens_int Try.underlying5 (by kernel_rfl)
theorem roundEasier_op90 : Opens Try.prog 90 4 (fun x : Int × Int × Int × Int => [D.v (.int .u8 x.1), D.v (.int .u8 x.2.1), D.v (.int .u8 x.2.2.1), D.v (.int .u8 x.2.2.2)]) (fun x => (Lit.int .u8 x.1).wf = true ∧ (Lit.int .u8 x.2.1).wf = true ∧ (Lit.int .u8 x.2.2.1).wf = true ∧ (Lit.int .u8 x.2.2.2).wf = true) := (opens_array (m := 4) (s := 1) Try.underlying90 (by kernel_rfl) (by kernel_rfl) (parts_cons roundEasier_op5 (parts_cons roundEasier_op5 (parts_cons roundEasier_op5 (parts_cons roundEasier_op5 parts_nil))))).map (fun p => (p.1, p.2.1, p.2.2.1, p.2.2.2.1)) (fun _ => rfl) (fun p h => ⟨h.1, h.2.1, h.2.2.1, h.2.2.2.1⟩)
theorem roundEasier_op52 : Opens Try.prog 52 1 (fun x : (List (Int × Int × Int × Int)) => [D.s 4 (List.map (fun el90 : Int × Int × Int × Int => [D.v (.int .u8 el90.1), D.v (.int .u8 el90.2.1), D.v (.int .u8 el90.2.2.1), D.v (.int .u8 el90.2.2.2)]) x)]) (fun x => ((x).length ≤ maxLen ∧ ∀ el90 ∈ x, (Lit.int .u8 el90.1).wf = true ∧ (Lit.int .u8 el90.2.1).wf = true ∧ (Lit.int .u8 el90.2.2.1).wf = true ∧ (Lit.int .u8 el90.2.2.2).wf = true)) := opens_slice Try.underlying52 (by kernel_rfl) (by decide) roundEasier_op90
theorem roundEasier_op51 : Opens Try.prog 51 1 (fun x : (List Int) => [D.s 1 (List.map (fun el5 : Int => [D.v (.int .u8 el5)]) x)]) (fun x => ((x).length ≤ maxLen ∧ ∀ el5 ∈ x, (Lit.int .u8 el5).wf = true)) := opens_slice Try.underlying51 (by kernel_rfl) (by decide) roundEasier_op5
theorem roundEasier_op89 : Opens Try.prog 89 5 (fun x : Int × Int × Int × Int × Int => [D.v (.int .u8 x.1), D.v (.int .u8 x.2.1), D.v (.int .u8 x.2.2.1), D.v (.int .u8 x.2.2.2.1), D.v (.int .u8 x.2.2.2.2)]) (fun x => (Lit.int .u8 x.1).wf = true ∧ (Lit.int .u8 x.2.1).wf = true ∧ (Lit.int .u8 x.2.2.1).wf = true ∧ (Lit.int .u8 x.2.2.2.1).wf = true ∧ (Lit.int .u8 x.2.2.2.2).wf = true) := (opens_array (m := 5) (s := 1) Try.underlying89 (by kernel_rfl) (by kernel_rfl) (parts_cons roundEasier_op5 (parts_cons roundEasier_op5 (parts_cons roundEasier_op5 (parts_cons roundEasier_op5 (parts_cons roundEasier_op5 parts_nil)))))).map (fun p => (p.1, p.2.1, p.2.2.1, p.2.2.2.1, p.2.2.2.2.1)) (fun _ => rfl) (fun p h => ⟨h.1, h.2.1, h.2.2.1, h.2.2.2.1, h.2.2.2.2.1⟩)
theorem roundEasier_op50 : Opens Try.prog 50 1 (fun x : (List (Int × Int × Int × Int × Int)) => [D.s 5 (List.map (fun el89 : Int × Int × Int × Int × Int => [D.v (.int .u8 el89.1), D.v (.int .u8 el89.2.1), D.v (.int .u8 el89.2.2.1), D.v (.int .u8 el89.2.2.2.1), D.v (.int .u8 el89.2.2.2.2)]) x)]) (fun x => ((x).length ≤ maxLen ∧ ∀ el89 ∈ x, (Lit.int .u8 el89.1).wf = true ∧ (Lit.int .u8 el89.2.1).wf = true ∧ (Lit.int .u8 el89.2.2.1).wf = true ∧ (Lit.int .u8 el89.2.2.2.1).wf = true ∧ (Lit.int .u8 el89.2.2.2.2).wf = true)) := opens_slice Try.underlying50 (by kernel_rfl) (by decide) roundEasier_op89
theorem roundEasier_op54 : Opens Try.prog 54 5 (fun x : (List (Int × Int × Int × Int × Int)) × (List Int) × (List (Int × Int × Int × Int)) × Int × Int => [D.s 5 (List.map (fun el89 : Int × Int × Int × Int × Int => [D.v (.int .u8 el89.1), D.v (.int .u8 el89.2.1), D.v (.int .u8 el89.2.2.1), D.v (.int .u8 el89.2.2.2.1), D.v (.int .u8 el89.2.2.2.2)]) x.1), D.s 1 (List.map (fun el5 : Int => [D.v (.int .u8 el5)]) x.2.1), D.s 4 (List.map (fun el90 : Int × Int × Int × Int => [D.v (.int .u8 el90.1), D.v (.int .u8 el90.2.1), D.v (.int .u8 el90.2.2.1), D.v (.int .u8 el90.2.2.2)]) x.2.2.1), D.v (.int .u8 x.2.2.2.1), D.v (.int .u8 x.2.2.2.2)]) (fun x => ((x.1).length ≤ maxLen ∧ ∀ el89 ∈ x.1, (Lit.int .u8 el89.1).wf = true ∧ (Lit.int .u8 el89.2.1).wf = true ∧ (Lit.int .u8 el89.2.2.1).wf = true ∧ (Lit.int .u8 el89.2.2.2.1).wf = true ∧ (Lit.int .u8 el89.2.2.2.2).wf = true) ∧ ((x.2.1).length ≤ maxLen ∧ ∀ el5 ∈ x.2.1, (Lit.int .u8 el5).wf = true) ∧ ((x.2.2.1).length ≤ maxLen ∧ ∀ el90 ∈ x.2.2.1, (Lit.int .u8 el90.1).wf = true ∧ (Lit.int .u8 el90.2.1).wf = true ∧ (Lit.int .u8 el90.2.2.1).wf = true ∧ (Lit.int .u8 el90.2.2.2).wf = true) ∧ (Lit.int .u8 x.2.2.2.1).wf = true ∧ (Lit.int .u8 x.2.2.2.2).wf = true) := (opens_struct Try.underlying54 (by kernel_rfl) (by kernel_rfl) (parts_cons roundEasier_op50 (parts_cons roundEasier_op51 (parts_cons roundEasier_op52 (parts_cons roundEasier_op5 (parts_cons roundEasier_op5 parts_nil)))))).map (fun p => (p.1, p.2.1, p.2.2.1, p.2.2.2.1, p.2.2.2.2.1)) (fun _ => rfl) (fun p h => ⟨h.1, h.2.1, h.2.2.1, h.2.2.2.1, h.2.2.2.2.1⟩)
theorem roundEasier_op73 : Opens Try.prog 73 3 (fun x : Int × Int × Int => [D.v (.int .u8 x.1), D.v (.int .u8 x.2.1), D.v (.int .u8 x.2.2)]) (fun x => (Lit.int .u8 x.1).wf = true ∧ (Lit.int .u8 x.2.1).wf = true ∧ (Lit.int .u8 x.2.2).wf = true) := (opens_array (m := 3) (s := 1) Try.underlying73 (by kernel_rfl) (by kernel_rfl) (parts_cons roundEasier_op5 (parts_cons roundEasier_op5 (parts_cons roundEasier_op5 parts_nil)))).map (fun p => (p.1, p.2.1, p.2.2.1)) (fun _ => rfl) (fun p h => ⟨h.1, h.2.1, h.2.2.1⟩)
theorem roundEasier_own : ownKnob Try.prog.godebug = none := by kernel_rfl
theorem roundEasier_laid : laidOutB Try.prog = true := by kernel_rfl
set_option maxRecDepth 100000 in
set_option maxHeartbeats 1000000 in
theorem roundEasier_lifted (os : Os) (started : os.Started) (H : Type) (enc : TypeId × Value → H) :
    ReturnsInHanded {} Try.checked os 6 .any (Rows.roundEasierSpec.pre6 enc Try.prog Try.f6 Rows.roundEasierRow.domain false) (Rows.roundEasierSpec.post enc Try.prog Try.f6 false true false false) := by
  refine returnsInHanded_of_change (C := Try.checked) roundEasier_own started (by kernel_rfl) Try.func6
    (ChangeSpec.witness6 (enc := enc) (C := Try.checked) false ⟨#[], #[.agg #[.slice none 0 0, .slice none 0 0, .slice none 0 0, .int .u8 0, .int .u8 0], .slice none 0 0, .agg #[.int .u8 0, .int .u8 0, .int .u8 0]], []⟩ 8 (by kernel_rfl) (by kernel_rfl) (by kernel_rfl) (by kernel_rfl)) ?_
  intro W base args ds gs before hval0 hW hcnd _
  have hval : ∀ (j : Nat) t v, Try.f6.params[j]? = some t → args[j]? = some v → Value.okWide Try.prog W .any base t v := hval0
  have hW' := hW
  obtain ⟨p, q, hA0, hV, rfl, hfz, hnd⟩ := hW
  have hA : DataW.TrodAll enc Try.prog W 0 (fun _ => true) true Try.f6.params.toList args.toList ds p := hA0
  rw [Try.params6] at hA hval
  obtain ⟨v0, vs0, d0, ds0, p0, q0, hargs, rfl, rfl, h0, r0⟩ := trodAll_cons hA
  obtain ⟨v1, vs1, d1, ds1, p1, q1, rfl, rfl, rfl, h1, r1⟩ := trodAll_cons r0
  obtain ⟨v2, vs2, d2, ds2, p2, q2, rfl, rfl, rfl, h2, r2⟩ := trodAll_cons r1
  obtain ⟨rfl, rfl, rfl⟩ := trodAll_nil r2
  obtain rfl : args = #[v0, v1, v2] := by cases args; simp_all
  obtain ⟨rfl, rfl⟩ := trodVars_none hV
  have k0 := h0
  have lt0 : ∀ x ∈ p0, x.block < W.heap.size := by obtain ⟨m, hm⟩ := k0; exact DataW.trod_lt m _ _ _ hm
  have k1 := h1
  have lt1 : ∀ x ∈ p1, x.block < W.heap.size := by obtain ⟨m, hm⟩ := k1; exact DataW.trod_lt m _ _ _ hm
  have k2 := h2
  have lt2 : ∀ x ∈ p2, x.block < W.heap.size := by obtain ⟨m, hm⟩ := k2; exact DataW.trod_lt m _ _ _ hm
  obtain ⟨a0, cs0, w0, rfl, ok0⟩ := arg_agg (agg_struct Try.underlying54 (hval 0 54 v0 rfl rfl)) roundEasier_op54 h0
  obtain ⟨u0_0, cs0_0, rfl, e0_0, ok0_0⟩ := okL_cons ok0
  obtain ⟨b0_0, n0_0, c0_0, rfl⟩ := reads_slice e0_0
  obtain ⟨u0_1, cs0_1, rfl, e0_1, ok0_1⟩ := okL_cons ok0_0
  obtain ⟨b0_1, n0_1, c0_1, rfl⟩ := reads_slice e0_1
  obtain ⟨u0_2, cs0_2, rfl, e0_2, ok0_2⟩ := okL_cons ok0_1
  obtain ⟨b0_2, n0_2, c0_2, rfl⟩ := reads_slice e0_2
  obtain ⟨u0_3, cs0_3, rfl, e0_3, ok0_3⟩ := okL_cons ok0_2
  cases e0_3
  obtain ⟨u0_4, cs0_4, rfl, e0_4, ok0_4⟩ := okL_cons ok0_3
  cases e0_4
  cases okL_nil ok0_4
  obtain ⟨a1, w1, rd1⟩ := arg_slice Try.underlying51 roundEasier_op51 (hval 1 51 v1 rfl rfl) h1
  obtain ⟨b1, n1, c1, rfl⟩ := reads_slice rd1
  obtain ⟨a2, cs2, w2, rfl, ok2⟩ := arg_agg (agg_array Try.underlying73 (hval 2 73 v2 rfl rfl)) roundEasier_op73 h2
  obtain ⟨u2_0, cs2_0, rfl, e2_0, ok2_0⟩ := okL_cons ok2
  cases e2_0
  obtain ⟨u2_1, cs2_1, rfl, e2_1, ok2_1⟩ := okL_cons ok2_0
  cases e2_1
  obtain ⟨u2_2, cs2_2, rfl, e2_2, ok2_2⟩ := okL_cons ok2_1
  cases e2_2
  cases okL_nil ok2_2
  clear hA0 hval0
  obtain ⟨fuel, hev⟩ := roundEasier_evx w0 w1 w2
  refine (FC.run (fc_law11_RoundEasier hev) (fun k => if k = 0 then (.slice b0_0 n0_0 c0_0) else if k = 1 then (.slice b0_1 n0_1 c0_1) else if k = 2 then (.slice b0_2 n0_2 c0_2) else if k = 3 then (.slice b1 n1 c1) else .bool false) rfl (fun y hy => ?_)).mono fun e W' ⟨he, bel⟩ => ?_
  · simp only [List.mem_cons, List.not_mem_nil, or_false] at hy
    rcases hy with rfl | rfl | rfl | rfl
    · exact e0_0
    · exact e0_1
    · exact e0_2
    · exact rd1
  subst he
  exact ⟨_, rfl, _, _, _, [], _, [], hW', trodAll_mk1 (shut_bool Try.underlying4 _), (trodAll_cons_mk (Below.trod roundEasier_laid (by kernel_rfl) (of_decide_eq_true (by kernel_rfl)) k0 bel lt0) (trodAll_cons_mk (Below.trod roundEasier_laid (by kernel_rfl) (of_decide_eq_true (by kernel_rfl)) k1 bel lt1) (trodAll_cons_mk (Below.trod roundEasier_laid (by kernel_rfl) (of_decide_eq_true (by kernel_rfl)) k2 bel lt2) trodAll_mk0))), rfl, bel.frame _, fun h => by cases h⟩

theorem roundEasier_q1 : Try.checked.prog.funcNamed Rows.roundEasierRow.func = some 6 := by kernel_rfl
theorem roundEasier_and {a b : Bool} (ha : a = true) (hb : b = true) : (a && b) = true := by rw [ha, hb]; rfl
set_option maxHeartbeats 4000000 in
theorem roundEasier_q2 : joinedFacts Try.checked.prog 6 Try.f6 Rows.roundEasierSpec Rows.roundEasierRow = true := by
  unfold joinedFacts
  exact roundEasier_and (roundEasier_and (roundEasier_and (roundEasier_and (roundEasier_and (roundEasier_and (roundEasier_and (roundEasier_and (roundEasier_and (roundEasier_and (roundEasier_and (roundEasier_and (roundEasier_and (roundEasier_and (roundEasier_and (roundEasier_and (roundEasier_and (roundEasier_and (roundEasier_and (roundEasier_and (roundEasier_and (roundEasier_and (roundEasier_and (roundEasier_and (roundEasier_and (roundEasier_and (roundEasier_and (roundEasier_and (roundEasier_and (roundEasier_and (roundEasier_and (by as_aux_lemma => kernel_rfl) (by as_aux_lemma => kernel_rfl)) (by as_aux_lemma => kernel_rfl)) (by as_aux_lemma => kernel_rfl)) (by as_aux_lemma => kernel_rfl)) (by as_aux_lemma => kernel_rfl)) (by as_aux_lemma => kernel_rfl)) (by as_aux_lemma => kernel_rfl)) (by as_aux_lemma => kernel_rfl)) (by as_aux_lemma => kernel_rfl)) (by as_aux_lemma => kernel_rfl)) (by as_aux_lemma => kernel_rfl)) (by as_aux_lemma => kernel_rfl)) (by as_aux_lemma => kernel_rfl)) (by as_aux_lemma => kernel_rfl)) (by as_aux_lemma => kernel_rfl)) (by as_aux_lemma => kernel_rfl)) (by as_aux_lemma => kernel_rfl)) (by as_aux_lemma => kernel_rfl)) (by as_aux_lemma => kernel_rfl)) (by as_aux_lemma => kernel_rfl)) (by as_aux_lemma => kernel_rfl)) (by as_aux_lemma => kernel_rfl)) (by as_aux_lemma => kernel_rfl)) (by as_aux_lemma => kernel_rfl)) (by as_aux_lemma => kernel_rfl)) (by as_aux_lemma => kernel_rfl)) (by as_aux_lemma => kernel_rfl)) (by as_aux_lemma => kernel_rfl)) (by as_aux_lemma => kernel_rfl)) (by as_aux_lemma => kernel_rfl)) (by as_aux_lemma => kernel_rfl)
theorem roundEasier_q3 : Try.f6.isInstance Try.checked.prog Rows.roundEasierRow.origin Rows.roundEasierRow.targs := (of_decide_eq_true (by kernel_rfl))
theorem roundEasier_q4 : Try.f6.isWrapper Try.checked.prog Rows.roundEasierRow.wrapper Rows.roundEasierRow.mainSum := (by unfold Func.isWrapper; first | (rw [if_pos (by decide +kernel)]; kernel_rfl) | (rw [if_neg (by decide +kernel)]; exact ⟨rfl, rfl⟩))
theorem roundEasier_q5 : ∀ os : Os, os.Started → ∀ (H : Type) (enc : TypeId × Value → H), (∀ a b, enc a = enc b → a = b) →
    ReturnsInHanded Rows.roundEasierRow.assume Try.checked os 6 .any (Rows.roundEasierRow.pre enc Try.checked.prog Try.f6 (OpenSpec.ofChange Rows.roundEasierSpec)) (Rows.roundEasierSpec.post enc Try.checked.prog Try.f6 Rows.roundEasierRow.apart Rows.roundEasierRow.fresh Rows.roundEasierRow.handsOn Rows.roundEasierRow.again) := fun os started H enc _ => roundEasier_lifted os started H enc
theorem roundEasier_said : Rows.RoundEasierSaid :=
  OpenClaim.holds_of_wide 6 Try.f6 rfl rfl rfl rfl rfl rfl rfl ⟨rfl, rfl, rfl, rfl, rfl⟩ rfl rfl rfl rfl rfl roundEasier_q1 Try.func6 roundEasier_q2 roundEasier_q3 roundEasier_q4 roundEasier_q5
end Go.Proofs.Ytohjpfkcahlfkaa.Sy
namespace Go.Proofs.Ytohjpfkcahlfkaa
theorem roundEasier_holds : Rows.RoundEasierSaid := Sy.roundEasier_said
#print axioms roundEasier_holds
end Go.Proofs.Ytohjpfkcahlfkaa
