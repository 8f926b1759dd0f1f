/- Whatever train of a shop there is, Fewest returns trains with its ratio. -/
import Derived.Test.YtabjhlfgcmmbfaaRows
import Derived.Test.YtabjhlfgcmmbfaaEvTrainExact
import Derived.Test.YtabjhlfgcmmbfaaSymO
import Derived.Test.YtabjhlfgcmmbfaaChecked
import Derived.ProofKit
import Derived.ShutString
import Derived.ChangeOld
set_option linter.unusedSimpArgs false
set_option linter.unusedVariables false
namespace Go.Proofs.Ytabjhlfgcmmbfaa.Sy
open Go.ChangeShapes Go.WideShapes Go.ChangeAt Go.RowKit

theorem trainExact_op5 : Opens Try.prog 5 1 (fun x : Int => [D.v (.int .u8 x)]) (fun x => (Lit.int .u8 x).wf = true) := opens_int Try.underlying5 (by kernel_rfl)
theorem trainExact_op62 : Opens Try.prog 62 1 (fun x : (List Int) => [D.s 1 (List.map (fun el5 : Int => [D.v (.int .u8 el5)]) x)]) (fun x => ((x).length ≤ maxLen ∧ ∀ el5 ∈ x, (Lit.int .u8 el5).wf = true)) := opens_slice Try.underlying62 (by kernel_rfl) (by decide) trainExact_op5
theorem trainExact_op64 : Opens Try.prog 64 2 (fun x : (List Int) × (List Int) => [D.s 1 (List.map (fun el5 : Int => [D.v (.int .u8 el5)]) x.1), D.s 1 (List.map (fun el5 : Int => [D.v (.int .u8 el5)]) x.2)]) (fun x => ((x.1).length ≤ maxLen ∧ ∀ el5 ∈ x.1, (Lit.int .u8 el5).wf = true) ∧ ((x.2).length ≤ maxLen ∧ ∀ el5 ∈ x.2, (Lit.int .u8 el5).wf = true)) := (opens_struct Try.underlying64 (by kernel_rfl) (by kernel_rfl) (parts_cons trainExact_op62 (parts_cons trainExact_op62 parts_nil))).map (fun p => (p.1, p.2.1)) (fun _ => rfl) (fun p h => ⟨h.1, h.2.1⟩)
theorem trainExact_own : ownKnob Try.prog.godebug = none := by kernel_rfl
theorem trainExact_laid : laidOutB Try.prog = true := by kernel_rfl
set_option maxRecDepth 100000 in
set_option maxHeartbeats 1000000 in
theorem trainExact_lifted (os : Os) (started : os.Started) (H : Type) (enc : TypeId × Value → H) :
    ReturnsInHanded {} Try.checked os 7 .any (Rows.trainExactSpec.pre6 enc Try.prog Try.f7 Rows.trainExactRow.domain false) (Rows.trainExactSpec.post enc Try.prog Try.f7 false true false false) := by
  refine returnsInHanded_of_change (C := Try.checked) trainExact_own started (by kernel_rfl) Try.func7
    (ChangeSpec.witness6 (enc := enc) (C := Try.checked) false ⟨#[], #[.agg #[.slice none 0 0, .slice none 0 0], .slice none 0 0], []⟩ 8 (by kernel_rfl) (by kernel_rfl) (by kernel_rfl) (by kernel_rfl)) ?_
  intro W base args ds gs before hval0 hW hcnd _
  have hval : ∀ (j : Nat) t v, Try.f7.params[j]? = some t → args[j]? = some v → Value.okWide Try.prog W .any base t v := hval0
  have hW' := hW
  obtain ⟨p, q, hA0, hV, rfl, hfz, hnd⟩ := hW
  have hA : DataW.TrodAll enc Try.prog W 0 (fun _ => true) true Try.f7.params.toList args.toList ds p := hA0
  rw [Try.params7] at hA hval
  obtain ⟨v0, vs0, d0, ds0, p0, q0, hargs, rfl, rfl, h0, r0⟩ := trodAll_cons hA
  obtain ⟨v1, vs1, d1, ds1, p1, q1, rfl, rfl, rfl, h1, r1⟩ := trodAll_cons r0
  obtain ⟨rfl, rfl, rfl⟩ := trodAll_nil r1
  obtain rfl : args = #[v0, v1] := by cases args; simp_all
  obtain ⟨rfl, rfl⟩ := trodVars_none hV
  have k0 := h0
  have lt0 : ∀ x ∈ p0, x.block < W.heap.size := by obtain ⟨m, hm⟩ := k0; exact DataW.trod_lt m _ _ _ hm
  have k1 := h1
  have lt1 : ∀ x ∈ p1, x.block < W.heap.size := by obtain ⟨m, hm⟩ := k1; exact DataW.trod_lt m _ _ _ hm
  obtain ⟨a0, cs0, w0, rfl, ok0⟩ := arg_agg (agg_struct Try.underlying64 (hval 0 64 v0 rfl rfl)) trainExact_op64 h0
  obtain ⟨u0_0, cs0_0, rfl, e0_0, ok0_0⟩ := okL_cons ok0
  obtain ⟨b0_0, n0_0, c0_0, rfl⟩ := reads_slice e0_0
  obtain ⟨u0_1, cs0_1, rfl, e0_1, ok0_1⟩ := okL_cons ok0_0
  obtain ⟨b0_1, n0_1, c0_1, rfl⟩ := reads_slice e0_1
  cases okL_nil ok0_1
  obtain ⟨a1, w1, rd1⟩ := arg_slice Try.underlying62 trainExact_op62 (hval 1 62 v1 rfl rfl) h1
  obtain ⟨b1, n1, c1, rfl⟩ := reads_slice rd1
  clear hA0 hval0
  obtain ⟨fuel, hev⟩ := trainExact_evx w0 w1
  refine (FC.run (fc_law01_TrainExact hev) (fun k => if k = 0 then (.slice b0_0 n0_0 c0_0) else if k = 1 then (.slice b0_1 n0_1 c0_1) else if k = 2 then (.slice b1 n1 c1) else .bool false) rfl (fun y hy => ?_)).mono fun e W' ⟨he, bel⟩ => ?_
  · simp only [List.mem_cons, List.not_mem_nil, or_false] at hy
    rcases hy with rfl | rfl | rfl
    · exact e0_0
    · exact e0_1
    · exact rd1
  subst he
  exact ⟨_, rfl, _, _, _, [], _, [], hW', trodAll_mk1 (shut_bool Try.underlying4 _), (trodAll_cons_mk (Below.trod trainExact_laid (by kernel_rfl) (of_decide_eq_true (by kernel_rfl)) k0 bel lt0) (trodAll_cons_mk (Below.trod trainExact_laid (by kernel_rfl) (of_decide_eq_true (by kernel_rfl)) k1 bel lt1) trodAll_mk0)), rfl, bel.frame _, fun h => by cases h⟩

theorem trainExact_q1 : Try.checked.prog.funcNamed Rows.trainExactRow.func = some 7 := by kernel_rfl
theorem trainExact_and {a b : Bool} (ha : a = true) (hb : b = true) : (a && b) = true := by rw [ha, hb]; rfl
set_option maxHeartbeats 4000000 in
theorem trainExact_q2 : joinedFacts Try.checked.prog 7 Try.f7 Rows.trainExactSpec Rows.trainExactRow = true := by
  unfold joinedFacts
  exact trainExact_and (trainExact_and (trainExact_and (trainExact_and (trainExact_and (trainExact_and (trainExact_and (trainExact_and (trainExact_and (trainExact_and (trainExact_and (trainExact_and (trainExact_and (trainExact_and (trainExact_and (trainExact_and (trainExact_and (trainExact_and (trainExact_and (trainExact_and (trainExact_and (trainExact_and (trainExact_and (trainExact_and (trainExact_and (trainExact_and (trainExact_and (trainExact_and (trainExact_and (trainExact_and (trainExact_and (by as_aux_lemma => kernel_rfl) (by as_aux_lemma => kernel_rfl)) (by as_aux_lemma => kernel_rfl)) (by as_aux_lemma => kernel_rfl)) (by as_aux_lemma => kernel_rfl)) (by as_aux_lemma => kernel_rfl)) (by as_aux_lemma => kernel_rfl)) (by as_aux_lemma => kernel_rfl)) (by as_aux_lemma => kernel_rfl)) (by as_aux_lemma => kernel_rfl)) (by as_aux_lemma => kernel_rfl)) (by as_aux_lemma => kernel_rfl)) (by as_aux_lemma => kernel_rfl)) (by as_aux_lemma => kernel_rfl)) (by as_aux_lemma => kernel_rfl)) (by as_aux_lemma => kernel_rfl)) (by as_aux_lemma => kernel_rfl)) (by as_aux_lemma => kernel_rfl)) (by as_aux_lemma => kernel_rfl)) (by as_aux_lemma => kernel_rfl)) (by as_aux_lemma => kernel_rfl)) (by as_aux_lemma => kernel_rfl)) (by as_aux_lemma => kernel_rfl)) (by as_aux_lemma => kernel_rfl)) (by as_aux_lemma => kernel_rfl)) (by as_aux_lemma => kernel_rfl)) (by as_aux_lemma => kernel_rfl)) (by as_aux_lemma => kernel_rfl)) (by as_aux_lemma => kernel_rfl)) (by as_aux_lemma => kernel_rfl)) (by as_aux_lemma => kernel_rfl)) (by as_aux_lemma => kernel_rfl)
theorem trainExact_q3 : Try.f7.isInstance Try.checked.prog Rows.trainExactRow.origin Rows.trainExactRow.targs := (of_decide_eq_true (by kernel_rfl))
theorem trainExact_q4 : Try.f7.isWrapper Try.checked.prog Rows.trainExactRow.wrapper Rows.trainExactRow.mainSum := (by unfold Func.isWrapper; first | (rw [if_pos (by decide +kernel)]; kernel_rfl) | (rw [if_neg (by decide +kernel)]; exact ⟨rfl, rfl⟩))
theorem trainExact_q5 : ∀ os : Os, os.Started → ∀ (H : Type) (enc : TypeId × Value → H), (∀ a b, enc a = enc b → a = b) →
    ReturnsInHanded Rows.trainExactRow.assume Try.checked os 7 .any (Rows.trainExactRow.pre enc Try.checked.prog Try.f7 (OpenSpec.ofChange Rows.trainExactSpec)) (Rows.trainExactSpec.post enc Try.checked.prog Try.f7 Rows.trainExactRow.apart Rows.trainExactRow.fresh Rows.trainExactRow.handsOn Rows.trainExactRow.again) := fun os started H enc _ => trainExact_lifted os started H enc
theorem trainExact_said : Rows.TrainExactSaid :=
  OpenClaim.holds_of_wide 7 Try.f7 rfl rfl rfl rfl rfl rfl rfl ⟨rfl, rfl, rfl, rfl, rfl⟩ rfl rfl rfl rfl rfl trainExact_q1 Try.func7 trainExact_q2 trainExact_q3 trainExact_q4 trainExact_q5
end Go.Proofs.Ytabjhlfgcmmbfaa.Sy
namespace Go.Proofs.Ytabjhlfgcmmbfaa
theorem trainExact_holds : Rows.TrainExactSaid := Sy.trainExact_said
#print axioms trainExact_holds
end Go.Proofs.Ytabjhlfgcmmbfaa
