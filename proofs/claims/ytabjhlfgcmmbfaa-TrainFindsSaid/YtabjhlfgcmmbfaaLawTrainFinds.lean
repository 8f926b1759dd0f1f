/- The trains with the fewest pairs are those of the reference. -/
import Derived.Test.YtabjhlfgcmmbfaaRows
import Derived.Test.YtabjhlfgcmmbfaaEvTrainFinds
import Derived.Test.YtabjhlfgcmmbfaaSymO
import Derived.Test.YtabjhlfgcmmbfaaChecked
import Derived.ProofKit
import Derived.ShutString
import Derived.ChangeOld
set_option linter.unusedSimpArgs false
set_option linter.unusedVariables false
namespace Go.Proofs.Ytabjhlfgcmmbfaa.Sy
open Go.ChangeShapes Go.WideShapes Go.ChangeAt Go.RowKit

theorem trainFinds_op3 : Opens Try.prog 3 1 (fun x : Int => [D.v (.int .i64 x)]) (fun x => (Lit.int .i64 x).wf = true) := opens_int Try.underlying3 (by kernel_rfl)
theorem trainFinds_op38 : Opens Try.prog 38 1 (fun x : (List Int) => [D.s 1 (List.map (fun el3 : Int => [D.v (.int .i64 el3)]) x)]) (fun x => ((x).length ≤ maxLen ∧ ∀ el3 ∈ x, (Lit.int .i64 el3).wf = true)) := opens_slice Try.underlying38 (by kernel_rfl) (by decide) trainFinds_op3
theorem trainFinds_op40 : Opens Try.prog 40 2 (fun x : (List Int) × (List Int) => [D.s 1 (List.map (fun el3 : Int => [D.v (.int .i64 el3)]) x.1), D.s 1 (List.map (fun el3 : Int => [D.v (.int .i64 el3)]) x.2)]) (fun x => ((x.1).length ≤ maxLen ∧ ∀ el3 ∈ x.1, (Lit.int .i64 el3).wf = true) ∧ ((x.2).length ≤ maxLen ∧ ∀ el3 ∈ x.2, (Lit.int .i64 el3).wf = true)) := (opens_struct Try.underlying40 (by kernel_rfl) (by kernel_rfl) (parts_cons trainFinds_op38 (parts_cons trainFinds_op38 parts_nil))).map (fun p => (p.1, p.2.1)) (fun _ => rfl) (fun p h => ⟨h.1, h.2.1⟩)
theorem trainFinds_op26 : Opens Try.prog 26 2 (fun x : Int × Int => [D.v (.int .i64 x.1), D.v (.int .i64 x.2)]) (fun x => (Lit.int .i64 x.1).wf = true ∧ (Lit.int .i64 x.2).wf = true) := (opens_struct Try.underlying26 (by kernel_rfl) (by kernel_rfl) (parts_cons trainFinds_op3 (parts_cons trainFinds_op3 parts_nil))).map (fun p => (p.1, p.2.1)) (fun _ => rfl) (fun p h => ⟨h.1, h.2.1⟩)
theorem trainFinds_own : ownKnob Try.prog.godebug = none := by kernel_rfl
theorem trainFinds_laid : laidOutB Try.prog = true := by kernel_rfl
set_option maxRecDepth 100000 in
set_option maxHeartbeats 1000000 in
theorem trainFinds_lifted (os : Os) (started : os.Started) (H : Type) (enc : TypeId × Value → H) :
    ReturnsInHanded {} Try.checked os 5 .any (Rows.trainFindsSpec.pre6 enc Try.prog Try.f5 Rows.trainFindsRow.domain false) (Rows.trainFindsSpec.post enc Try.prog Try.f5 false true false false) := by
  refine returnsInHanded_of_change (C := Try.checked) trainFinds_own started (by kernel_rfl) Try.func5
    (ChangeSpec.witness6 (enc := enc) (C := Try.checked) false ⟨#[], #[.agg #[.slice none 0 0, .slice none 0 0], .agg #[.int .i64 0, .int .i64 0]], []⟩ 8 (by kernel_rfl) (by kernel_rfl) (by kernel_rfl) (by kernel_rfl)) ?_
  intro W base args ds gs before hval0 hW hcnd _
  have hval : ∀ (j : Nat) t v, Try.f5.params[j]? = some t → args[j]? = some v → Value.okWide Try.prog W .any base t v := hval0
  have hW' := hW
  obtain ⟨p, q, hA0, hV, rfl, hfz, hnd⟩ := hW
  have hA : DataW.TrodAll enc Try.prog W 0 (fun _ => true) true Try.f5.params.toList args.toList ds p := hA0
  rw [Try.params5] at hA hval
  obtain ⟨v0, vs0, d0, ds0, p0, q0, hargs, rfl, rfl, h0, r0⟩ := trodAll_cons hA
  obtain ⟨v1, vs1, d1, ds1, p1, q1, rfl, rfl, rfl, h1, r1⟩ := trodAll_cons r0
  obtain ⟨rfl, rfl, rfl⟩ := trodAll_nil r1
  obtain rfl : args = #[v0, v1] := by cases args; simp_all
  obtain ⟨rfl, rfl⟩ := trodVars_none hV
  have k0 := h0
  have lt0 : ∀ x ∈ p0, x.block < W.heap.size := by obtain ⟨m, hm⟩ := k0; exact DataW.trod_lt m _ _ _ hm
  have k1 := h1
  have lt1 : ∀ x ∈ p1, x.block < W.heap.size := by obtain ⟨m, hm⟩ := k1; exact DataW.trod_lt m _ _ _ hm
  obtain ⟨a0, cs0, w0, rfl, ok0⟩ := arg_agg (agg_struct Try.underlying40 (hval 0 40 v0 rfl rfl)) trainFinds_op40 h0
  obtain ⟨u0_0, cs0_0, rfl, e0_0, ok0_0⟩ := okL_cons ok0
  obtain ⟨b0_0, n0_0, c0_0, rfl⟩ := reads_slice e0_0
  obtain ⟨u0_1, cs0_1, rfl, e0_1, ok0_1⟩ := okL_cons ok0_0
  obtain ⟨b0_1, n0_1, c0_1, rfl⟩ := reads_slice e0_1
  cases okL_nil ok0_1
  obtain ⟨a1, cs1, w1, rfl, ok1⟩ := arg_agg (agg_struct Try.underlying26 (hval 1 26 v1 rfl rfl)) trainFinds_op26 h1
  obtain ⟨u1_0, cs1_0, rfl, e1_0, ok1_0⟩ := okL_cons ok1
  cases e1_0
  obtain ⟨u1_1, cs1_1, rfl, e1_1, ok1_1⟩ := okL_cons ok1_0
  cases e1_1
  cases okL_nil ok1_1
  clear hA0 hval0
  obtain ⟨fuel, hev⟩ := trainFinds_evx w0 w1
  refine (FC.run (fc_law01_TrainFinds hev) (fun k => if k = 0 then (.slice b0_0 n0_0 c0_0) else if k = 1 then (.slice b0_1 n0_1 c0_1) else .bool false) rfl (fun y hy => ?_)).mono fun e W' ⟨he, bel⟩ => ?_
  · simp only [List.mem_cons, List.not_mem_nil, or_false] at hy
    rcases hy with rfl | rfl
    · exact e0_0
    · exact e0_1
  subst he
  exact ⟨_, rfl, _, _, _, [], _, [], hW', trodAll_mk1 (shut_bool Try.underlying4 _), (trodAll_cons_mk (Below.trod trainFinds_laid (by kernel_rfl) (of_decide_eq_true (by kernel_rfl)) k0 bel lt0) (trodAll_cons_mk (Below.trod trainFinds_laid (by kernel_rfl) (of_decide_eq_true (by kernel_rfl)) k1 bel lt1) trodAll_mk0)), rfl, bel.frame _, fun h => by cases h⟩

theorem trainFinds_q1 : Try.checked.prog.funcNamed Rows.trainFindsRow.func = some 5 := by kernel_rfl
theorem trainFinds_and {a b : Bool} (ha : a = true) (hb : b = true) : (a && b) = true := by rw [ha, hb]; rfl
set_option maxHeartbeats 4000000 in
theorem trainFinds_q2 : joinedFacts Try.checked.prog 5 Try.f5 Rows.trainFindsSpec Rows.trainFindsRow = true := by
  unfold joinedFacts
  exact trainFinds_and (trainFinds_and (trainFinds_and (trainFinds_and (trainFinds_and (trainFinds_and (trainFinds_and (trainFinds_and (trainFinds_and (trainFinds_and (trainFinds_and (trainFinds_and (trainFinds_and (trainFinds_and (trainFinds_and (trainFinds_and (trainFinds_and (trainFinds_and (trainFinds_and (trainFinds_and (trainFinds_and (trainFinds_and (trainFinds_and (trainFinds_and (trainFinds_and (trainFinds_and (trainFinds_and (trainFinds_and (trainFinds_and (trainFinds_and (trainFinds_and (by as_aux_lemma => kernel_rfl) (by as_aux_lemma => kernel_rfl)) (by as_aux_lemma => kernel_rfl)) (by as_aux_lemma => kernel_rfl)) (by as_aux_lemma => kernel_rfl)) (by as_aux_lemma => kernel_rfl)) (by as_aux_lemma => kernel_rfl)) (by as_aux_lemma => kernel_rfl)) (by as_aux_lemma => kernel_rfl)) (by as_aux_lemma => kernel_rfl)) (by as_aux_lemma => kernel_rfl)) (by as_aux_lemma => kernel_rfl)) (by as_aux_lemma => kernel_rfl)) (by as_aux_lemma => kernel_rfl)) (by as_aux_lemma => kernel_rfl)) (by as_aux_lemma => kernel_rfl)) (by as_aux_lemma => kernel_rfl)) (by as_aux_lemma => kernel_rfl)) (by as_aux_lemma => kernel_rfl)) (by as_aux_lemma => kernel_rfl)) (by as_aux_lemma => kernel_rfl)) (by as_aux_lemma => kernel_rfl)) (by as_aux_lemma => kernel_rfl)) (by as_aux_lemma => kernel_rfl)) (by as_aux_lemma => kernel_rfl)) (by as_aux_lemma => kernel_rfl)) (by as_aux_lemma => kernel_rfl)) (by as_aux_lemma => kernel_rfl)) (by as_aux_lemma => kernel_rfl)) (by as_aux_lemma => kernel_rfl)) (by as_aux_lemma => kernel_rfl)) (by as_aux_lemma => kernel_rfl)
theorem trainFinds_q3 : Try.f5.isInstance Try.checked.prog Rows.trainFindsRow.origin Rows.trainFindsRow.targs := (of_decide_eq_true (by kernel_rfl))
theorem trainFinds_q4 : Try.f5.isWrapper Try.checked.prog Rows.trainFindsRow.wrapper Rows.trainFindsRow.mainSum := (by unfold Func.isWrapper; first | (rw [if_pos (by decide +kernel)]; kernel_rfl) | (rw [if_neg (by decide +kernel)]; exact ⟨rfl, rfl⟩))
theorem trainFinds_q5 : ∀ os : Os, os.Started → ∀ (H : Type) (enc : TypeId × Value → H), (∀ a b, enc a = enc b → a = b) →
    ReturnsInHanded Rows.trainFindsRow.assume Try.checked os 5 .any (Rows.trainFindsRow.pre enc Try.checked.prog Try.f5 (OpenSpec.ofChange Rows.trainFindsSpec)) (Rows.trainFindsSpec.post enc Try.checked.prog Try.f5 Rows.trainFindsRow.apart Rows.trainFindsRow.fresh Rows.trainFindsRow.handsOn Rows.trainFindsRow.again) := fun os started H enc _ => trainFinds_lifted os started H enc
theorem trainFinds_said : Rows.TrainFindsSaid :=
  OpenClaim.holds_of_wide 5 Try.f5 rfl rfl rfl rfl rfl rfl rfl ⟨rfl, rfl, rfl, rfl, rfl⟩ rfl rfl rfl rfl rfl trainFinds_q1 Try.func5 trainFinds_q2 trainFinds_q3 trainFinds_q4 trainFinds_q5
end Go.Proofs.Ytabjhlfgcmmbfaa.Sy
namespace Go.Proofs.Ytabjhlfgcmmbfaa
theorem trainFinds_holds : Rows.TrainFindsSaid := Sy.trainFinds_said
#print axioms trainFinds_holds
end Go.Proofs.Ytabjhlfgcmmbfaa
