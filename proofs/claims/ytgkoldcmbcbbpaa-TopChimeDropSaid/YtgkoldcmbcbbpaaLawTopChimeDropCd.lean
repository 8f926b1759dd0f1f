/- The weight of a chime is down in the first hour whose blows take more line than is left, and in a day each pin has as many blows as the barrel makes turns, for all works by bytes with at most 20 pins. -/
import Derived.Test.YtgkoldcmbcbbpaaRows
import Derived.Test.YtgkoldcmbcbbpaaCdEvTopChimeDrop
import Derived.Test.YtgkoldcmbcbbpaaCdSymO
import Derived.Test.YtgkoldcmbcbbpaaChecked
import Derived.ProofKit
import Derived.ShutString
import Derived.ChangeOld
set_option linter.unusedSimpArgs false
set_option linter.unusedVariables false
namespace Go.Proofs.Ytgkoldcmbcbbpaa.Sy
open Go.ChangeShapes Go.WideShapes Go.ChangeAt Go.RowKit

theorem topChimeDrop_op5 : Opens Try.prog 5 1 (fun x : Int => [D.v (.int .u8 x)]) (fun x => (Lit.int .u8 x).wf = true) := opens_int Try.underlying5 (by kernel_rfl)
theorem topChimeDrop_op116 : Opens Try.prog 116 6 (fun x : Int × Int × Int × Int × Int × Int => [D.v (.int .u8 x.1), D.v (.int .u8 x.2.1), D.v (.int .u8 x.2.2.1), D.v (.int .u8 x.2.2.2.1), D.v (.int .u8 x.2.2.2.2.1), D.v (.int .u8 x.2.2.2.2.2)]) (fun x => (Lit.int .u8 x.1).wf = true ∧ (Lit.int .u8 x.2.1).wf = true ∧ (Lit.int .u8 x.2.2.1).wf = true ∧ (Lit.int .u8 x.2.2.2.1).wf = true ∧ (Lit.int .u8 x.2.2.2.2.1).wf = true ∧ (Lit.int .u8 x.2.2.2.2.2).wf = true) := (opens_array (m := 6) (s := 1) Try.underlying116 (by kernel_rfl) (by kernel_rfl) (parts_cons topChimeDrop_op5 (parts_cons topChimeDrop_op5 (parts_cons topChimeDrop_op5 (parts_cons topChimeDrop_op5 (parts_cons topChimeDrop_op5 (parts_cons topChimeDrop_op5 parts_nil))))))).map (fun p => (p.1, p.2.1, p.2.2.1, p.2.2.2.1, p.2.2.2.2.1, p.2.2.2.2.2.1)) (fun _ => rfl) (fun p h => ⟨h.1, h.2.1, h.2.2.1, h.2.2.2.1, h.2.2.2.2.1, h.2.2.2.2.2.1⟩)
theorem topChimeDrop_op132 : Opens Try.prog 132 1 (fun x : (List Int) => [D.s 1 (List.map (fun el5 : Int => [D.v (.int .u8 el5)]) x)]) (fun x => ((x).length ≤ maxLen ∧ ∀ el5 ∈ x, (Lit.int .u8 el5).wf = true)) := opens_slice Try.underlying132 (by kernel_rfl) (by decide) topChimeDrop_op5
theorem topChimeDrop_own : ownKnob Try.prog.godebug = none := by kernel_rfl
theorem topChimeDrop_laid : laidOutB Try.prog = true := by kernel_rfl
set_option maxRecDepth 100000 in
set_option maxHeartbeats 1000000 in
theorem topChimeDrop_lifted (os : Os) (started : os.Started) (H : Type) (enc : TypeId × Value → H) :
    ReturnsInHanded {} Try.checked os 10 .any (Rows.topChimeDropSpec.pre6 enc Try.prog Try.f10 Rows.topChimeDropRow.domain false) (Rows.topChimeDropSpec.post enc Try.prog Try.f10 false true false false) := by
  refine returnsInHanded_of_change (C := Try.checked) topChimeDrop_own started (by kernel_rfl) Try.func10
    (ChangeSpec.witness6 (enc := enc) (C := Try.checked) false ⟨#[], #[.agg #[.int .u8 0, .int .u8 0, .int .u8 0, .int .u8 0, .int .u8 0, .int .u8 0], .slice none 0 0, .int .u16 0], []⟩ 8 (by kernel_rfl) (by kernel_rfl) (by kernel_rfl) (by kernel_rfl)) ?_
  intro W base args ds gs before hval0 hW hcnd _
  have hval : ∀ (j : Nat) t v, Try.f10.params[j]? = some t → args[j]? = some v → Value.okWide Try.prog W .any base t v := hval0
  have hW' := hW
  obtain ⟨p, q, hA0, hV, rfl, hfz, hnd⟩ := hW
  have hA : DataW.TrodAll enc Try.prog W 0 (fun _ => true) true Try.f10.params.toList args.toList ds p := hA0
  rw [Try.params10] at hA hval
  obtain ⟨v0, vs0, d0, ds0, p0, q0, hargs, rfl, rfl, h0, r0⟩ := trodAll_cons hA
  obtain ⟨v1, vs1, d1, ds1, p1, q1, rfl, rfl, rfl, h1, r1⟩ := trodAll_cons r0
  obtain ⟨v2, vs2, d2, ds2, p2, q2, rfl, rfl, rfl, h2, r2⟩ := trodAll_cons r1
  obtain ⟨rfl, rfl, rfl⟩ := trodAll_nil r2
  obtain rfl : args = #[v0, v1, v2] := by cases args; simp_all
  obtain ⟨rfl, rfl⟩ := trodVars_none hV
  have k0 := h0
  have lt0 : ∀ x ∈ p0, x.block < W.heap.size := by obtain ⟨m, hm⟩ := k0; exact DataW.trod_lt m _ _ _ hm
  have k1 := h1
  have lt1 : ∀ x ∈ p1, x.block < W.heap.size := by obtain ⟨m, hm⟩ := k1; exact DataW.trod_lt m _ _ _ hm
  have k2 := h2
  have lt2 : ∀ x ∈ p2, x.block < W.heap.size := by obtain ⟨m, hm⟩ := k2; exact DataW.trod_lt m _ _ _ hm
  obtain ⟨a0, cs0, w0, rfl, ok0⟩ := arg_agg (agg_array Try.underlying116 (hval 0 116 v0 rfl rfl)) topChimeDrop_op116 h0
  obtain ⟨u0_0, cs0_0, rfl, e0_0, ok0_0⟩ := okL_cons ok0
  cases e0_0
  obtain ⟨u0_1, cs0_1, rfl, e0_1, ok0_1⟩ := okL_cons ok0_0
  cases e0_1
  obtain ⟨u0_2, cs0_2, rfl, e0_2, ok0_2⟩ := okL_cons ok0_1
  cases e0_2
  obtain ⟨u0_3, cs0_3, rfl, e0_3, ok0_3⟩ := okL_cons ok0_2
  cases e0_3
  obtain ⟨u0_4, cs0_4, rfl, e0_4, ok0_4⟩ := okL_cons ok0_3
  cases e0_4
  obtain ⟨u0_5, cs0_5, rfl, e0_5, ok0_5⟩ := okL_cons ok0_4
  cases e0_5
  cases okL_nil ok0_5
  obtain ⟨a1, w1, rd1⟩ := arg_slice Try.underlying132 topChimeDrop_op132 (hval 1 132 v1 rfl rfl) h1
  obtain ⟨b1, n1, c1, rfl⟩ := reads_slice rd1
  obtain ⟨a2, rfl, _, _, w2⟩ := open_int Try.underlying46 (hval 2 46 v2 rfl rfl) h2
  clear hA0 hval0
  obtain ⟨fuel, hev⟩ := topChimeDrop_evx w0 w1 w2
  refine (FC.run (fc_top_TopChimeDrop hev) (fun k => if k = 0 then (.slice b1 n1 c1) else .bool false) rfl (fun y hy => ?_)).mono fun e W' ⟨he, bel⟩ => ?_
  · simp only [List.mem_cons, List.not_mem_nil, or_false] at hy
    rcases hy with rfl
    · exact rd1
  subst he
  exact ⟨_, rfl, _, _, _, [], _, [], hW', trodAll_mk1 (shut_bool Try.underlying4 _), (trodAll_cons_mk (Below.trod topChimeDrop_laid (by kernel_rfl) (of_decide_eq_true (by kernel_rfl)) k0 bel lt0) (trodAll_cons_mk (Below.trod topChimeDrop_laid (by kernel_rfl) (of_decide_eq_true (by kernel_rfl)) k1 bel lt1) (trodAll_cons_mk (Below.trod topChimeDrop_laid (by kernel_rfl) (of_decide_eq_true (by kernel_rfl)) k2 bel lt2) trodAll_mk0))), rfl, bel.frame _, fun h => by cases h⟩

theorem topChimeDrop_q1 : Try.checked.prog.funcNamed Rows.topChimeDropRow.func = some 10 := by kernel_rfl
theorem topChimeDrop_and {a b : Bool} (ha : a = true) (hb : b = true) : (a && b) = true := by rw [ha, hb]; rfl
set_option maxHeartbeats 4000000 in
theorem topChimeDrop_q2 : joinedFacts Try.checked.prog 10 Try.f10 Rows.topChimeDropSpec Rows.topChimeDropRow = true := by
  unfold joinedFacts
  exact topChimeDrop_and (topChimeDrop_and (topChimeDrop_and (topChimeDrop_and (topChimeDrop_and (topChimeDrop_and (topChimeDrop_and (topChimeDrop_and (topChimeDrop_and (topChimeDrop_and (topChimeDrop_and (topChimeDrop_and (topChimeDrop_and (topChimeDrop_and (topChimeDrop_and (topChimeDrop_and (topChimeDrop_and (topChimeDrop_and (topChimeDrop_and (topChimeDrop_and (topChimeDrop_and (topChimeDrop_and (topChimeDrop_and (topChimeDrop_and (topChimeDrop_and (topChimeDrop_and (topChimeDrop_and (topChimeDrop_and (topChimeDrop_and (topChimeDrop_and (topChimeDrop_and (by as_aux_lemma => kernel_rfl) (by as_aux_lemma => kernel_rfl)) (by as_aux_lemma => kernel_rfl)) (by as_aux_lemma => kernel_rfl)) (by as_aux_lemma => kernel_rfl)) (by as_aux_lemma => kernel_rfl)) (by as_aux_lemma => kernel_rfl)) (by as_aux_lemma => kernel_rfl)) (by as_aux_lemma => kernel_rfl)) (by as_aux_lemma => kernel_rfl)) (by as_aux_lemma => kernel_rfl)) (by as_aux_lemma => kernel_rfl)) (by as_aux_lemma => kernel_rfl)) (by as_aux_lemma => kernel_rfl)) (by as_aux_lemma => kernel_rfl)) (by as_aux_lemma => kernel_rfl)) (by as_aux_lemma => kernel_rfl)) (by as_aux_lemma => kernel_rfl)) (by as_aux_lemma => kernel_rfl)) (by as_aux_lemma => kernel_rfl)) (by as_aux_lemma => kernel_rfl)) (by as_aux_lemma => kernel_rfl)) (by as_aux_lemma => kernel_rfl)) (by as_aux_lemma => kernel_rfl)) (by as_aux_lemma => kernel_rfl)) (by as_aux_lemma => kernel_rfl)) (by as_aux_lemma => kernel_rfl)) (by as_aux_lemma => kernel_rfl)) (by as_aux_lemma => kernel_rfl)) (by as_aux_lemma => kernel_rfl)) (by as_aux_lemma => kernel_rfl)) (by as_aux_lemma => kernel_rfl)
theorem topChimeDrop_q3 : Try.f10.isInstance Try.checked.prog Rows.topChimeDropRow.origin Rows.topChimeDropRow.targs := (of_decide_eq_true (by kernel_rfl))
theorem topChimeDrop_q4 : Try.f10.isWrapper Try.checked.prog Rows.topChimeDropRow.wrapper Rows.topChimeDropRow.mainSum := (by unfold Func.isWrapper; first | (rw [if_pos (by decide +kernel)]; kernel_rfl) | (rw [if_neg (by decide +kernel)]; exact ⟨rfl, rfl⟩))
theorem topChimeDrop_q5 : ∀ os : Os, os.Started → ∀ (H : Type) (enc : TypeId × Value → H), (∀ a b, enc a = enc b → a = b) →
    ReturnsInHanded Rows.topChimeDropRow.assume Try.checked os 10 .any (Rows.topChimeDropRow.pre enc Try.checked.prog Try.f10 (OpenSpec.ofChange Rows.topChimeDropSpec)) (Rows.topChimeDropSpec.post enc Try.checked.prog Try.f10 Rows.topChimeDropRow.apart Rows.topChimeDropRow.fresh Rows.topChimeDropRow.handsOn Rows.topChimeDropRow.again) := fun os started H enc _ => topChimeDrop_lifted os started H enc
theorem topChimeDrop_said : Rows.TopChimeDropSaid :=
  OpenClaim.holds_of_wide 10 Try.f10 rfl rfl rfl rfl rfl rfl rfl ⟨rfl, rfl, rfl, rfl, rfl⟩ rfl rfl rfl rfl rfl topChimeDrop_q1 Try.func10 topChimeDrop_q2 topChimeDrop_q3 topChimeDrop_q4 topChimeDrop_q5
end Go.Proofs.Ytgkoldcmbcbbpaa.Sy
namespace Go.Proofs.Ytgkoldcmbcbbpaa
theorem topChimeDrop_holds : Rows.TopChimeDropSaid := Sy.topChimeDrop_said
#print axioms topChimeDrop_holds
end Go.Proofs.Ytgkoldcmbcbbpaa
