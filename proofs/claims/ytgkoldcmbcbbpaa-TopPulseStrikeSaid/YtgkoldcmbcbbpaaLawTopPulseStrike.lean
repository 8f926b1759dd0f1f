/- A strike by impulses. -/
import Derived.Test.YtgkoldcmbcbbpaaRows
import Derived.Test.YtgkoldcmbcbbpaaEvTopPulseStrike
import Derived.Test.YtgkoldcmbcbbpaaSymO
import Derived.Test.YtgkoldcmbcbbpaaChecked
import Derived.ProofKit
import Derived.ShutString
import Derived.ChangeOld
set_option linter.unusedSimpArgs false
set_option linter.unusedVariables false
namespace Go.Proofs.Ytgkoldcmbcbbpaa.Sy
open Go.ChangeShapes Go.WideShapes Go.ChangeAt Go.RowKit

theorem topPulseStrike_op4 : Opens Try.prog 4 1 (fun x : Bool => [D.v (.bool x)]) (fun x => True) := opens_bool Try.underlying4 (by kernel_rfl)
theorem topPulseStrike_op151 : Opens Try.prog 151 20 (fun x : Bool × Bool × Bool × Bool × Bool × Bool × Bool × Bool × Bool × Bool × Bool × Bool × Bool × Bool × Bool × Bool × Bool × Bool × Bool × Bool => [D.v (.bool x.1), D.v (.bool x.2.1), D.v (.bool x.2.2.1), D.v (.bool x.2.2.2.1), D.v (.bool x.2.2.2.2.1), D.v (.bool x.2.2.2.2.2.1), D.v (.bool x.2.2.2.2.2.2.1), D.v (.bool x.2.2.2.2.2.2.2.1), D.v (.bool x.2.2.2.2.2.2.2.2.1), D.v (.bool x.2.2.2.2.2.2.2.2.2.1), D.v (.bool x.2.2.2.2.2.2.2.2.2.2.1), D.v (.bool x.2.2.2.2.2.2.2.2.2.2.2.1), D.v (.bool x.2.2.2.2.2.2.2.2.2.2.2.2.1), D.v (.bool x.2.2.2.2.2.2.2.2.2.2.2.2.2.1), D.v (.bool x.2.2.2.2.2.2.2.2.2.2.2.2.2.2.1), D.v (.bool x.2.2.2.2.2.2.2.2.2.2.2.2.2.2.2.1), D.v (.bool x.2.2.2.2.2.2.2.2.2.2.2.2.2.2.2.2.1), D.v (.bool x.2.2.2.2.2.2.2.2.2.2.2.2.2.2.2.2.2.1), D.v (.bool x.2.2.2.2.2.2.2.2.2.2.2.2.2.2.2.2.2.2.1), D.v (.bool x.2.2.2.2.2.2.2.2.2.2.2.2.2.2.2.2.2.2.2)]) (fun x => True ∧ True ∧ True ∧ True ∧ True ∧ True ∧ True ∧ True ∧ True ∧ True ∧ True ∧ True ∧ True ∧ True ∧ True ∧ True ∧ True ∧ True ∧ True ∧ True) := (opens_array (m := 20) (s := 1) Try.underlying151 (by kernel_rfl) (by kernel_rfl) (parts_cons topPulseStrike_op4 (parts_cons topPulseStrike_op4 (parts_cons topPulseStrike_op4 (parts_cons topPulseStrike_op4 (parts_cons topPulseStrike_op4 (parts_cons topPulseStrike_op4 (parts_cons topPulseStrike_op4 (parts_cons topPulseStrike_op4 (parts_cons topPulseStrike_op4 (parts_cons topPulseStrike_op4 (parts_cons topPulseStrike_op4 (parts_cons topPulseStrike_op4 (parts_cons topPulseStrike_op4 (parts_cons topPulseStrike_op4 (parts_cons topPulseStrike_op4 (parts_cons topPulseStrike_op4 (parts_cons topPulseStrike_op4 (parts_cons topPulseStrike_op4 (parts_cons topPulseStrike_op4 (parts_cons topPulseStrike_op4 parts_nil))))))))))))))))))))).map (fun p => (p.1, p.2.1, p.2.2.1, p.2.2.2.1, p.2.2.2.2.1, p.2.2.2.2.2.1, p.2.2.2.2.2.2.1, p.2.2.2.2.2.2.2.1, p.2.2.2.2.2.2.2.2.1, p.2.2.2.2.2.2.2.2.2.1, p.2.2.2.2.2.2.2.2.2.2.1, p.2.2.2.2.2.2.2.2.2.2.2.1, p.2.2.2.2.2.2.2.2.2.2.2.2.1, p.2.2.2.2.2.2.2.2.2.2.2.2.2.1, p.2.2.2.2.2.2.2.2.2.2.2.2.2.2.1, p.2.2.2.2.2.2.2.2.2.2.2.2.2.2.2.1, p.2.2.2.2.2.2.2.2.2.2.2.2.2.2.2.2.1, p.2.2.2.2.2.2.2.2.2.2.2.2.2.2.2.2.2.1, p.2.2.2.2.2.2.2.2.2.2.2.2.2.2.2.2.2.2.1, p.2.2.2.2.2.2.2.2.2.2.2.2.2.2.2.2.2.2.2.1)) (fun _ => rfl) (fun p h => ⟨h.1, h.2.1, h.2.2.1, h.2.2.2.1, h.2.2.2.2.1, h.2.2.2.2.2.1, h.2.2.2.2.2.2.1, h.2.2.2.2.2.2.2.1, h.2.2.2.2.2.2.2.2.1, h.2.2.2.2.2.2.2.2.2.1, h.2.2.2.2.2.2.2.2.2.2.1, h.2.2.2.2.2.2.2.2.2.2.2.1, h.2.2.2.2.2.2.2.2.2.2.2.2.1, h.2.2.2.2.2.2.2.2.2.2.2.2.2.1, h.2.2.2.2.2.2.2.2.2.2.2.2.2.2.1, h.2.2.2.2.2.2.2.2.2.2.2.2.2.2.2.1, h.2.2.2.2.2.2.2.2.2.2.2.2.2.2.2.2.1, h.2.2.2.2.2.2.2.2.2.2.2.2.2.2.2.2.2.1, h.2.2.2.2.2.2.2.2.2.2.2.2.2.2.2.2.2.2.1, h.2.2.2.2.2.2.2.2.2.2.2.2.2.2.2.2.2.2.2.1⟩)
theorem topPulseStrike_own : ownKnob Try.prog.godebug = none := by kernel_rfl
theorem topPulseStrike_laid : laidOutB Try.prog = true := by kernel_rfl
set_option maxRecDepth 100000 in
set_option maxHeartbeats 1000000 in
theorem topPulseStrike_lifted (os : Os) (started : os.Started) (H : Type) (enc : TypeId × Value → H) :
    ReturnsInHanded {} Try.checked os 12 .any (Rows.topPulseStrikeSpec.pre6 enc Try.prog Try.f12 Rows.topPulseStrikeRow.domain false) (Rows.topPulseStrikeSpec.post enc Try.prog Try.f12 false true false false) := by
  refine returnsInHanded_of_change (C := Try.checked) topPulseStrike_own started (by kernel_rfl) Try.func12
    (ChangeSpec.witness6 (enc := enc) (C := Try.checked) false ⟨#[], #[.int .u8 0, .agg #[.bool false, .bool false, .bool false, .bool false, .bool false, .bool false, .bool false, .bool false, .bool false, .bool false, .bool false, .bool false, .bool false, .bool false, .bool false, .bool false, .bool false, .bool false, .bool false, .bool false]], []⟩ 8 (by kernel_rfl) (by kernel_rfl) (by kernel_rfl) (by kernel_rfl)) ?_
  intro W base args ds gs before hval0 hW hcnd _
  have hval : ∀ (j : Nat) t v, Try.f12.params[j]? = some t → args[j]? = some v → Value.okWide Try.prog W .any base t v := hval0
  have hW' := hW
  obtain ⟨p, q, hA0, hV, rfl, hfz, hnd⟩ := hW
  have hA : DataW.TrodAll enc Try.prog W 0 (fun _ => true) true Try.f12.params.toList args.toList ds p := hA0
  rw [Try.params12] at hA hval
  obtain ⟨v0, vs0, d0, ds0, p0, q0, hargs, rfl, rfl, h0, r0⟩ := trodAll_cons hA
  obtain ⟨v1, vs1, d1, ds1, p1, q1, rfl, rfl, rfl, h1, r1⟩ := trodAll_cons r0
  obtain ⟨rfl, rfl, rfl⟩ := trodAll_nil r1
  obtain rfl : args = #[v0, v1] := by cases args; simp_all
  obtain ⟨rfl, rfl⟩ := trodVars_none hV
  have k0 := h0
  have lt0 : ∀ x ∈ p0, x.block < W.heap.size := by obtain ⟨m, hm⟩ := k0; exact DataW.trod_lt m _ _ _ hm
  have k1 := h1
  have lt1 : ∀ x ∈ p1, x.block < W.heap.size := by obtain ⟨m, hm⟩ := k1; exact DataW.trod_lt m _ _ _ hm
  obtain ⟨a0, rfl, _, _, w0⟩ := open_int Try.underlying5 (hval 0 5 v0 rfl rfl) h0
  obtain ⟨a1, cs1, w1, rfl, ok1⟩ := arg_agg (agg_array Try.underlying151 (hval 1 151 v1 rfl rfl)) topPulseStrike_op151 h1
  obtain ⟨u1_0, cs1_0, rfl, e1_0, ok1_0⟩ := okL_cons ok1
  cases e1_0
  obtain ⟨u1_1, cs1_1, rfl, e1_1, ok1_1⟩ := okL_cons ok1_0
  cases e1_1
  obtain ⟨u1_2, cs1_2, rfl, e1_2, ok1_2⟩ := okL_cons ok1_1
  cases e1_2
  obtain ⟨u1_3, cs1_3, rfl, e1_3, ok1_3⟩ := okL_cons ok1_2
  cases e1_3
  obtain ⟨u1_4, cs1_4, rfl, e1_4, ok1_4⟩ := okL_cons ok1_3
  cases e1_4
  obtain ⟨u1_5, cs1_5, rfl, e1_5, ok1_5⟩ := okL_cons ok1_4
  cases e1_5
  obtain ⟨u1_6, cs1_6, rfl, e1_6, ok1_6⟩ := okL_cons ok1_5
  cases e1_6
  obtain ⟨u1_7, cs1_7, rfl, e1_7, ok1_7⟩ := okL_cons ok1_6
  cases e1_7
  obtain ⟨u1_8, cs1_8, rfl, e1_8, ok1_8⟩ := okL_cons ok1_7
  cases e1_8
  obtain ⟨u1_9, cs1_9, rfl, e1_9, ok1_9⟩ := okL_cons ok1_8
  cases e1_9
  obtain ⟨u1_10, cs1_10, rfl, e1_10, ok1_10⟩ := okL_cons ok1_9
  cases e1_10
  obtain ⟨u1_11, cs1_11, rfl, e1_11, ok1_11⟩ := okL_cons ok1_10
  cases e1_11
  obtain ⟨u1_12, cs1_12, rfl, e1_12, ok1_12⟩ := okL_cons ok1_11
  cases e1_12
  obtain ⟨u1_13, cs1_13, rfl, e1_13, ok1_13⟩ := okL_cons ok1_12
  cases e1_13
  obtain ⟨u1_14, cs1_14, rfl, e1_14, ok1_14⟩ := okL_cons ok1_13
  cases e1_14
  obtain ⟨u1_15, cs1_15, rfl, e1_15, ok1_15⟩ := okL_cons ok1_14
  cases e1_15
  obtain ⟨u1_16, cs1_16, rfl, e1_16, ok1_16⟩ := okL_cons ok1_15
  cases e1_16
  obtain ⟨u1_17, cs1_17, rfl, e1_17, ok1_17⟩ := okL_cons ok1_16
  cases e1_17
  obtain ⟨u1_18, cs1_18, rfl, e1_18, ok1_18⟩ := okL_cons ok1_17
  cases e1_18
  obtain ⟨u1_19, cs1_19, rfl, e1_19, ok1_19⟩ := okL_cons ok1_18
  cases e1_19
  cases okL_nil ok1_19
  clear hA0 hval0
  obtain ⟨fuel, hev⟩ := topPulseStrike_evx w0 w1
  refine (FC.run (fc_top_TopPulseStrike hev) (fun k => .bool false) rfl (fun y hy => ?_)).mono fun e W' ⟨he, bel⟩ => ?_
  · cases hy
  subst he
  exact ⟨_, rfl, _, _, _, [], _, [], hW', trodAll_mk1 (shut_bool Try.underlying4 _), (trodAll_cons_mk (Below.trod topPulseStrike_laid (by kernel_rfl) (of_decide_eq_true (by kernel_rfl)) k0 bel lt0) (trodAll_cons_mk (Below.trod topPulseStrike_laid (by kernel_rfl) (of_decide_eq_true (by kernel_rfl)) k1 bel lt1) trodAll_mk0)), rfl, bel.frame _, fun h => by cases h⟩

theorem topPulseStrike_q1 : Try.checked.prog.funcNamed Rows.topPulseStrikeRow.func = some 12 := by kernel_rfl
theorem topPulseStrike_and {a b : Bool} (ha : a = true) (hb : b = true) : (a && b) = true := by rw [ha, hb]; rfl
set_option maxHeartbeats 4000000 in
theorem topPulseStrike_q2 : joinedFacts Try.checked.prog 12 Try.f12 Rows.topPulseStrikeSpec Rows.topPulseStrikeRow = true := by
  unfold joinedFacts
  exact topPulseStrike_and (topPulseStrike_and (topPulseStrike_and (topPulseStrike_and (topPulseStrike_and (topPulseStrike_and (topPulseStrike_and (topPulseStrike_and (topPulseStrike_and (topPulseStrike_and (topPulseStrike_and (topPulseStrike_and (topPulseStrike_and (topPulseStrike_and (topPulseStrike_and (topPulseStrike_and (topPulseStrike_and (topPulseStrike_and (topPulseStrike_and (topPulseStrike_and (topPulseStrike_and (topPulseStrike_and (topPulseStrike_and (topPulseStrike_and (topPulseStrike_and (topPulseStrike_and (topPulseStrike_and (topPulseStrike_and (topPulseStrike_and (topPulseStrike_and (topPulseStrike_and (by as_aux_lemma => kernel_rfl) (by as_aux_lemma => kernel_rfl)) (by as_aux_lemma => kernel_rfl)) (by as_aux_lemma => kernel_rfl)) (by as_aux_lemma => kernel_rfl)) (by as_aux_lemma => kernel_rfl)) (by as_aux_lemma => kernel_rfl)) (by as_aux_lemma => kernel_rfl)) (by as_aux_lemma => kernel_rfl)) (by as_aux_lemma => kernel_rfl)) (by as_aux_lemma => kernel_rfl)) (by as_aux_lemma => kernel_rfl)) (by as_aux_lemma => kernel_rfl)) (by as_aux_lemma => kernel_rfl)) (by as_aux_lemma => kernel_rfl)) (by as_aux_lemma => kernel_rfl)) (by as_aux_lemma => kernel_rfl)) (by as_aux_lemma => kernel_rfl)) (by as_aux_lemma => kernel_rfl)) (by as_aux_lemma => kernel_rfl)) (by as_aux_lemma => kernel_rfl)) (by as_aux_lemma => kernel_rfl)) (by as_aux_lemma => kernel_rfl)) (by as_aux_lemma => kernel_rfl)) (by as_aux_lemma => kernel_rfl)) (by as_aux_lemma => kernel_rfl)) (by as_aux_lemma => kernel_rfl)) (by as_aux_lemma => kernel_rfl)) (by as_aux_lemma => kernel_rfl)) (by as_aux_lemma => kernel_rfl)) (by as_aux_lemma => kernel_rfl)) (by as_aux_lemma => kernel_rfl)
theorem topPulseStrike_q3 : Try.f12.isInstance Try.checked.prog Rows.topPulseStrikeRow.origin Rows.topPulseStrikeRow.targs := (of_decide_eq_true (by kernel_rfl))
theorem topPulseStrike_q4 : Try.f12.isWrapper Try.checked.prog Rows.topPulseStrikeRow.wrapper Rows.topPulseStrikeRow.mainSum := (by unfold Func.isWrapper; first | (rw [if_pos (by decide +kernel)]; kernel_rfl) | (rw [if_neg (by decide +kernel)]; exact ⟨rfl, rfl⟩))
theorem topPulseStrike_q5 : ∀ os : Os, os.Started → ∀ (H : Type) (enc : TypeId × Value → H), (∀ a b, enc a = enc b → a = b) →
    ReturnsInHanded Rows.topPulseStrikeRow.assume Try.checked os 12 .any (Rows.topPulseStrikeRow.pre enc Try.checked.prog Try.f12 (OpenSpec.ofChange Rows.topPulseStrikeSpec)) (Rows.topPulseStrikeSpec.post enc Try.checked.prog Try.f12 Rows.topPulseStrikeRow.apart Rows.topPulseStrikeRow.fresh Rows.topPulseStrikeRow.handsOn Rows.topPulseStrikeRow.again) := fun os started H enc _ => topPulseStrike_lifted os started H enc
theorem topPulseStrike_said : Rows.TopPulseStrikeSaid :=
  OpenClaim.holds_of_wide 12 Try.f12 rfl rfl rfl rfl rfl rfl rfl ⟨rfl, rfl, rfl, rfl, rfl⟩ rfl rfl rfl rfl rfl topPulseStrike_q1 Try.func12 topPulseStrike_q2 topPulseStrike_q3 topPulseStrike_q4 topPulseStrike_q5
end Go.Proofs.Ytgkoldcmbcbbpaa.Sy
namespace Go.Proofs.Ytgkoldcmbcbbpaa
theorem topPulseStrike_holds : Rows.TopPulseStrikeSaid := Sy.topPulseStrike_said
#print axioms topPulseStrike_holds
end Go.Proofs.Ytgkoldcmbcbbpaa
