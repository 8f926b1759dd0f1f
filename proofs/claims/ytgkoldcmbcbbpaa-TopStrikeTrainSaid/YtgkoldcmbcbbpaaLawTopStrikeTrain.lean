/- The train of a strike. -/
import Derived.Test.YtgkoldcmbcbbpaaRows
import Derived.Test.YtgkoldcmbcbbpaaEvTopStrikeTrain
import Derived.Test.YtgkoldcmbcbbpaaSymO
import Derived.Test.YtgkoldcmbcbbpaaChecked
import Derived.ProofKit
import Derived.ShutString
import Derived.ChangeOld
set_option linter.unusedSimpArgs false
set_option linter.unusedVariables false
namespace Go.Proofs.Ytgkoldcmbcbbpaa.Sy
open Go.ChangeShapes Go.WideShapes Go.ChangeAt Go.RowKit

theorem topStrikeTrain_op5 : Opens Try.prog 5 1 (fun x : Int => [D.v (.int .u8 x)]) (fun x => (Lit.int .u8 x).wf = true) := opens_int Try.underlying5 (by kernel_rfl)
theorem topStrikeTrain_op67 : Opens Try.prog 67 5 (fun x : Int × Int × Int × Int × Int => [D.v (.int .u8 x.1), D.v (.int .u8 x.2.1), D.v (.int .u8 x.2.2.1), D.v (.int .u8 x.2.2.2.1), D.v (.int .u8 x.2.2.2.2)]) (fun x => (Lit.int .u8 x.1).wf = true ∧ (Lit.int .u8 x.2.1).wf = true ∧ (Lit.int .u8 x.2.2.1).wf = true ∧ (Lit.int .u8 x.2.2.2.1).wf = true ∧ (Lit.int .u8 x.2.2.2.2).wf = true) := (opens_array (m := 5) (s := 1) Try.underlying67 (by kernel_rfl) (by kernel_rfl) (parts_cons topStrikeTrain_op5 (parts_cons topStrikeTrain_op5 (parts_cons topStrikeTrain_op5 (parts_cons topStrikeTrain_op5 (parts_cons topStrikeTrain_op5 parts_nil)))))).map (fun p => (p.1, p.2.1, p.2.2.1, p.2.2.2.1, p.2.2.2.2.1)) (fun _ => rfl) (fun p h => ⟨h.1, h.2.1, h.2.2.1, h.2.2.2.1, h.2.2.2.2.1⟩)
theorem topStrikeTrain_op68 : Opens Try.prog 68 10 (fun x : Int × Int × Int × Int × Int × Int × Int × Int × Int × Int => [D.v (.int .u8 x.1), D.v (.int .u8 x.2.1), D.v (.int .u8 x.2.2.1), D.v (.int .u8 x.2.2.2.1), D.v (.int .u8 x.2.2.2.2.1), D.v (.int .u8 x.2.2.2.2.2.1), D.v (.int .u8 x.2.2.2.2.2.2.1), D.v (.int .u8 x.2.2.2.2.2.2.2.1), D.v (.int .u8 x.2.2.2.2.2.2.2.2.1), D.v (.int .u8 x.2.2.2.2.2.2.2.2.2)]) (fun x => (Lit.int .u8 x.1).wf = true ∧ (Lit.int .u8 x.2.1).wf = true ∧ (Lit.int .u8 x.2.2.1).wf = true ∧ (Lit.int .u8 x.2.2.2.1).wf = true ∧ (Lit.int .u8 x.2.2.2.2.1).wf = true ∧ (Lit.int .u8 x.2.2.2.2.2.1).wf = true ∧ (Lit.int .u8 x.2.2.2.2.2.2.1).wf = true ∧ (Lit.int .u8 x.2.2.2.2.2.2.2.1).wf = true ∧ (Lit.int .u8 x.2.2.2.2.2.2.2.2.1).wf = true ∧ (Lit.int .u8 x.2.2.2.2.2.2.2.2.2).wf = true) := (opens_array (m := 2) (s := 5) Try.underlying68 (by kernel_rfl) (by kernel_rfl) (parts_cons topStrikeTrain_op67 (parts_cons topStrikeTrain_op67 parts_nil))).map (fun p => (p.1.1, p.1.2.1, p.1.2.2.1, p.1.2.2.2.1, p.1.2.2.2.2, p.2.1.1, p.2.1.2.1, p.2.1.2.2.1, p.2.1.2.2.2.1, p.2.1.2.2.2.2)) (fun _ => rfl) (fun p h => ⟨h.1.1, h.1.2.1, h.1.2.2.1, h.1.2.2.2.1, h.1.2.2.2.2, h.2.1.1, h.2.1.2.1, h.2.1.2.2.1, h.2.1.2.2.2.1, h.2.1.2.2.2.2⟩)
theorem topStrikeTrain_own : ownKnob Try.prog.godebug = none := by kernel_rfl
theorem topStrikeTrain_laid : laidOutB Try.prog = true := by kernel_rfl
set_option maxRecDepth 100000 in
set_option maxHeartbeats 1000000 in
theorem topStrikeTrain_lifted (os : Os) (started : os.Started) (H : Type) (enc : TypeId × Value → H) :
    ReturnsInHanded {} Try.checked os 6 .any (Rows.topStrikeTrainSpec.pre6 enc Try.prog Try.f6 Rows.topStrikeTrainRow.domain false) (Rows.topStrikeTrainSpec.post enc Try.prog Try.f6 false true false false) := by
  refine returnsInHanded_of_change (C := Try.checked) topStrikeTrain_own started (by kernel_rfl) Try.func6
    (ChangeSpec.witness6 (enc := enc) (C := Try.checked) false ⟨#[], #[.agg #[.int .u8 0, .int .u8 0, .int .u8 0, .int .u8 0, .int .u8 0, .int .u8 0, .int .u8 0, .int .u8 0, .int .u8 0, .int .u8 0], .int .u8 0, .bool false], []⟩ 8 (by kernel_rfl) (by kernel_rfl) (by kernel_rfl) (by kernel_rfl)) ?_
  intro W base args ds gs before hval0 hW hcnd _
  have hval : ∀ (j : Nat) t v, Try.f6.params[j]? = some t → args[j]? = some v → Value.okWide Try.prog W .any base t v := hval0
  have hW' := hW
  obtain ⟨p, q, hA0, hV, rfl, hfz, hnd⟩ := hW
  have hA : DataW.TrodAll enc Try.prog W 0 (fun _ => true) true Try.f6.params.toList args.toList ds p := hA0
  rw [Try.params6] at hA hval
  obtain ⟨v0, vs0, d0, ds0, p0, q0, hargs, rfl, rfl, h0, r0⟩ := trodAll_cons hA
  obtain ⟨v1, vs1, d1, ds1, p1, q1, rfl, rfl, rfl, h1, r1⟩ := trodAll_cons r0
  obtain ⟨v2, vs2, d2, ds2, p2, q2, rfl, rfl, rfl, h2, r2⟩ := trodAll_cons r1
  obtain ⟨rfl, rfl, rfl⟩ := trodAll_nil r2
  obtain rfl : args = #[v0, v1, v2] := by cases args; simp_all
  obtain ⟨rfl, rfl⟩ := trodVars_none hV
  have k0 := h0
  have lt0 : ∀ x ∈ p0, x.block < W.heap.size := by obtain ⟨m, hm⟩ := k0; exact DataW.trod_lt m _ _ _ hm
  have k1 := h1
  have lt1 : ∀ x ∈ p1, x.block < W.heap.size := by obtain ⟨m, hm⟩ := k1; exact DataW.trod_lt m _ _ _ hm
  have k2 := h2
  have lt2 : ∀ x ∈ p2, x.block < W.heap.size := by obtain ⟨m, hm⟩ := k2; exact DataW.trod_lt m _ _ _ hm
  obtain ⟨a0, cs0, w0, rfl, ok0⟩ := arg_agg (agg_array Try.underlying68 (hval 0 68 v0 rfl rfl)) topStrikeTrain_op68 h0
  obtain ⟨u0_0, cs0_0, rfl, e0_0, ok0_0⟩ := okL_cons ok0
  cases e0_0
  obtain ⟨u0_1, cs0_1, rfl, e0_1, ok0_1⟩ := okL_cons ok0_0
  cases e0_1
  obtain ⟨u0_2, cs0_2, rfl, e0_2, ok0_2⟩ := okL_cons ok0_1
  cases e0_2
  obtain ⟨u0_3, cs0_3, rfl, e0_3, ok0_3⟩ := okL_cons ok0_2
  cases e0_3
  obtain ⟨u0_4, cs0_4, rfl, e0_4, ok0_4⟩ := okL_cons ok0_3
  cases e0_4
  obtain ⟨u0_5, cs0_5, rfl, e0_5, ok0_5⟩ := okL_cons ok0_4
  cases e0_5
  obtain ⟨u0_6, cs0_6, rfl, e0_6, ok0_6⟩ := okL_cons ok0_5
  cases e0_6
  obtain ⟨u0_7, cs0_7, rfl, e0_7, ok0_7⟩ := okL_cons ok0_6
  cases e0_7
  obtain ⟨u0_8, cs0_8, rfl, e0_8, ok0_8⟩ := okL_cons ok0_7
  cases e0_8
  obtain ⟨u0_9, cs0_9, rfl, e0_9, ok0_9⟩ := okL_cons ok0_8
  cases e0_9
  cases okL_nil ok0_9
  obtain ⟨a1, rfl, _, _, w1⟩ := open_int Try.underlying5 (hval 1 5 v1 rfl rfl) h1
  obtain ⟨a2, rfl, _, _⟩ := open_bool Try.underlying4 (hval 2 4 v2 rfl rfl) h2
  have w2 : True := trivial
  clear hA0 hval0
  obtain ⟨fuel, hev⟩ := topStrikeTrain_evx w0 w1 w2
  refine (FC.run (fc_top_TopStrikeTrain hev) (fun k => .bool false) rfl (fun y hy => ?_)).mono fun e W' ⟨he, bel⟩ => ?_
  · cases hy
  subst he
  exact ⟨_, rfl, _, _, _, [], _, [], hW', trodAll_mk1 (shut_bool Try.underlying4 _), (trodAll_cons_mk (Below.trod topStrikeTrain_laid (by kernel_rfl) (of_decide_eq_true (by kernel_rfl)) k0 bel lt0) (trodAll_cons_mk (Below.trod topStrikeTrain_laid (by kernel_rfl) (of_decide_eq_true (by kernel_rfl)) k1 bel lt1) (trodAll_cons_mk (Below.trod topStrikeTrain_laid (by kernel_rfl) (of_decide_eq_true (by kernel_rfl)) k2 bel lt2) trodAll_mk0))), rfl, bel.frame _, fun h => by cases h⟩

theorem topStrikeTrain_q1 : Try.checked.prog.funcNamed Rows.topStrikeTrainRow.func = some 6 := by kernel_rfl
theorem topStrikeTrain_and {a b : Bool} (ha : a = true) (hb : b = true) : (a && b) = true := by rw [ha, hb]; rfl
set_option maxHeartbeats 4000000 in
theorem topStrikeTrain_q2 : joinedFacts Try.checked.prog 6 Try.f6 Rows.topStrikeTrainSpec Rows.topStrikeTrainRow = true := by
  unfold joinedFacts
  exact topStrikeTrain_and (topStrikeTrain_and (topStrikeTrain_and (topStrikeTrain_and (topStrikeTrain_and (topStrikeTrain_and (topStrikeTrain_and (topStrikeTrain_and (topStrikeTrain_and (topStrikeTrain_and (topStrikeTrain_and (topStrikeTrain_and (topStrikeTrain_and (topStrikeTrain_and (topStrikeTrain_and (topStrikeTrain_and (topStrikeTrain_and (topStrikeTrain_and (topStrikeTrain_and (topStrikeTrain_and (topStrikeTrain_and (topStrikeTrain_and (topStrikeTrain_and (topStrikeTrain_and (topStrikeTrain_and (topStrikeTrain_and (topStrikeTrain_and (topStrikeTrain_and (topStrikeTrain_and (topStrikeTrain_and (topStrikeTrain_and (by as_aux_lemma => kernel_rfl) (by as_aux_lemma => kernel_rfl)) (by as_aux_lemma => kernel_rfl)) (by as_aux_lemma => kernel_rfl)) (by as_aux_lemma => kernel_rfl)) (by as_aux_lemma => kernel_rfl)) (by as_aux_lemma => kernel_rfl)) (by as_aux_lemma => kernel_rfl)) (by as_aux_lemma => kernel_rfl)) (by as_aux_lemma => kernel_rfl)) (by as_aux_lemma => kernel_rfl)) (by as_aux_lemma => kernel_rfl)) (by as_aux_lemma => kernel_rfl)) (by as_aux_lemma => kernel_rfl)) (by as_aux_lemma => kernel_rfl)) (by as_aux_lemma => kernel_rfl)) (by as_aux_lemma => kernel_rfl)) (by as_aux_lemma => kernel_rfl)) (by as_aux_lemma => kernel_rfl)) (by as_aux_lemma => kernel_rfl)) (by as_aux_lemma => kernel_rfl)) (by as_aux_lemma => kernel_rfl)) (by as_aux_lemma => kernel_rfl)) (by as_aux_lemma => kernel_rfl)) (by as_aux_lemma => kernel_rfl)) (by as_aux_lemma => kernel_rfl)) (by as_aux_lemma => kernel_rfl)) (by as_aux_lemma => kernel_rfl)) (by as_aux_lemma => kernel_rfl)) (by as_aux_lemma => kernel_rfl)) (by as_aux_lemma => kernel_rfl)) (by as_aux_lemma => kernel_rfl)
theorem topStrikeTrain_q3 : Try.f6.isInstance Try.checked.prog Rows.topStrikeTrainRow.origin Rows.topStrikeTrainRow.targs := (of_decide_eq_true (by kernel_rfl))
theorem topStrikeTrain_q4 : Try.f6.isWrapper Try.checked.prog Rows.topStrikeTrainRow.wrapper Rows.topStrikeTrainRow.mainSum := (by unfold Func.isWrapper; first | (rw [if_pos (by decide +kernel)]; kernel_rfl) | (rw [if_neg (by decide +kernel)]; exact ⟨rfl, rfl⟩))
theorem topStrikeTrain_q5 : ∀ os : Os, os.Started → ∀ (H : Type) (enc : TypeId × Value → H), (∀ a b, enc a = enc b → a = b) →
    ReturnsInHanded Rows.topStrikeTrainRow.assume Try.checked os 6 .any (Rows.topStrikeTrainRow.pre enc Try.checked.prog Try.f6 (OpenSpec.ofChange Rows.topStrikeTrainSpec)) (Rows.topStrikeTrainSpec.post enc Try.checked.prog Try.f6 Rows.topStrikeTrainRow.apart Rows.topStrikeTrainRow.fresh Rows.topStrikeTrainRow.handsOn Rows.topStrikeTrainRow.again) := fun os started H enc _ => topStrikeTrain_lifted os started H enc
theorem topStrikeTrain_said : Rows.TopStrikeTrainSaid :=
  OpenClaim.holds_of_wide 6 Try.f6 rfl rfl rfl rfl rfl rfl rfl ⟨rfl, rfl, rfl, rfl, rfl⟩ rfl rfl rfl rfl rfl topStrikeTrain_q1 Try.func6 topStrikeTrain_q2 topStrikeTrain_q3 topStrikeTrain_q4 topStrikeTrain_q5
end Go.Proofs.Ytgkoldcmbcbbpaa.Sy
namespace Go.Proofs.Ytgkoldcmbcbbpaa
theorem topStrikeTrain_holds : Rows.TopStrikeTrainSaid := Sy.topStrikeTrain_said
#print axioms topStrikeTrain_holds
end Go.Proofs.Ytgkoldcmbcbbpaa
