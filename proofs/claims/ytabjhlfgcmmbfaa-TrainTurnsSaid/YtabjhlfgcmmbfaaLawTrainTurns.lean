/- Turns and cycles. -/
import Derived.Test.YtabjhlfgcmmbfaaRows
import Derived.Test.YtabjhlfgcmmbfaaEvTrainTurns
import Derived.Test.YtabjhlfgcmmbfaaSymO
import Derived.Test.YtabjhlfgcmmbfaaChecked
import Derived.ProofKit
import Derived.ShutString
import Derived.ChangeOld
set_option linter.unusedSimpArgs false
set_option linter.unusedVariables false
namespace Go.Proofs.Ytabjhlfgcmmbfaa.Sy
open Go.ChangeShapes Go.WideShapes Go.ChangeAt Go.RowKit

theorem trainTurns_op3 : Opens Try.prog 3 1 (fun x : Int => [D.v (.int .i64 x)]) (fun x => (Lit.int .i64 x).wf = true) := opens_int Try.underlying3 (by kernel_rfl)
theorem trainTurns_op33 : Opens Try.prog 33 2 (fun x : Int × Int => [D.v (.int .i64 x.1), D.v (.int .i64 x.2)]) (fun x => (Lit.int .i64 x.1).wf = true ∧ (Lit.int .i64 x.2).wf = true) := (opens_struct Try.underlying33 (by kernel_rfl) (by kernel_rfl) (parts_cons trainTurns_op3 (parts_cons trainTurns_op3 parts_nil))).map (fun p => (p.1, p.2.1)) (fun _ => rfl) (fun p h => ⟨h.1, h.2.1⟩)
theorem trainTurns_op22 : Opens Try.prog 22 1 (fun x : (List (Int × Int)) => [D.s 2 (List.map (fun el33 : Int × Int => [D.v (.int .i64 el33.1), D.v (.int .i64 el33.2)]) x)]) (fun x => ((x).length ≤ maxLen ∧ ∀ el33 ∈ x, (Lit.int .i64 el33.1).wf = true ∧ (Lit.int .i64 el33.2).wf = true)) := opens_slice Try.underlying22 (by kernel_rfl) (by decide) trainTurns_op33
theorem trainTurns_own : ownKnob Try.prog.godebug = none := by kernel_rfl
theorem trainTurns_laid : laidOutB Try.prog = true := by kernel_rfl
set_option maxRecDepth 100000 in
set_option maxHeartbeats 1000000 in
theorem trainTurns_lifted (os : Os) (started : os.Started) (H : Type) (enc : TypeId × Value → H) :
    ReturnsInHanded {} Try.checked os 3 .any (Rows.trainTurnsSpec.pre6 enc Try.prog Try.f3 Rows.trainTurnsRow.domain false) (Rows.trainTurnsSpec.post enc Try.prog Try.f3 false true false false) := by
  refine returnsInHanded_of_change (C := Try.checked) trainTurns_own started (by kernel_rfl) Try.func3
    (ChangeSpec.witness6 (enc := enc) (C := Try.checked) false ⟨#[], #[.slice none 0 0], []⟩ 8 (by kernel_rfl) (by kernel_rfl) (by kernel_rfl) (by kernel_rfl)) ?_
  intro W base args ds gs before hval0 hW hcnd _
  have hval : ∀ (j : Nat) t v, Try.f3.params[j]? = some t → args[j]? = some v → Value.okWide Try.prog W .any base t v := hval0
  have hW' := hW
  obtain ⟨p, q, hA0, hV, rfl, hfz, hnd⟩ := hW
  have hA : DataW.TrodAll enc Try.prog W 0 (fun _ => true) true Try.f3.params.toList args.toList ds p := hA0
  rw [Try.params3] at hA hval
  obtain ⟨v0, vs0, d0, ds0, p0, q0, hargs, rfl, rfl, h0, r0⟩ := trodAll_cons hA
  obtain ⟨rfl, rfl, rfl⟩ := trodAll_nil r0
  obtain rfl : args = #[v0] := by cases args; simp_all
  obtain ⟨rfl, rfl⟩ := trodVars_none hV
  have k0 := h0
  have lt0 : ∀ x ∈ p0, x.block < W.heap.size := by obtain ⟨m, hm⟩ := k0; exact DataW.trod_lt m _ _ _ hm
  obtain ⟨a0, w0, rd0⟩ := arg_slice Try.underlying22 trainTurns_op22 (hval 0 22 v0 rfl rfl) h0
  obtain ⟨b0, n0, c0, rfl⟩ := reads_slice rd0
  clear hA0 hval0
  obtain ⟨fuel, hev⟩ := trainTurns_evx w0
  refine (FC.run (fc_law01_TrainTurns hev) (fun k => if k = 0 then (.slice b0 n0 c0) else .bool false) rfl (fun y hy => ?_)).mono fun e W' ⟨he, bel⟩ => ?_
  · simp only [List.mem_cons, List.not_mem_nil, or_false] at hy
    rcases hy with rfl
    · exact rd0
  subst he
  exact ⟨_, rfl, _, _, _, [], _, [], hW', trodAll_mk1 (shut_bool Try.underlying4 _), (trodAll_cons_mk (Below.trod trainTurns_laid (by kernel_rfl) (of_decide_eq_true (by kernel_rfl)) k0 bel lt0) trodAll_mk0), rfl, bel.frame _, fun h => by cases h⟩

theorem trainTurns_q1 : Try.checked.prog.funcNamed Rows.trainTurnsRow.func = some 3 := by kernel_rfl
theorem trainTurns_and {a b : Bool} (ha : a = true) (hb : b = true) : (a && b) = true := by rw [ha, hb]; rfl
set_option maxHeartbeats 4000000 in
theorem trainTurns_q2 : joinedFacts Try.checked.prog 3 Try.f3 Rows.trainTurnsSpec Rows.trainTurnsRow = true := by
  unfold joinedFacts
  exact trainTurns_and (trainTurns_and (trainTurns_and (trainTurns_and (trainTurns_and (trainTurns_and (trainTurns_and (trainTurns_and (trainTurns_and (trainTurns_and (trainTurns_and (trainTurns_and (trainTurns_and (trainTurns_and (trainTurns_and (trainTurns_and (trainTurns_and (trainTurns_and (trainTurns_and (trainTurns_and (trainTurns_and (trainTurns_and (trainTurns_and (trainTurns_and (trainTurns_and (trainTurns_and (trainTurns_and (trainTurns_and (trainTurns_and (trainTurns_and (trainTurns_and (by as_aux_lemma => kernel_rfl) (by as_aux_lemma => kernel_rfl)) (by as_aux_lemma => kernel_rfl)) (by as_aux_lemma => kernel_rfl)) (by as_aux_lemma => kernel_rfl)) (by as_aux_lemma => kernel_rfl)) (by as_aux_lemma => kernel_rfl)) (by as_aux_lemma => kernel_rfl)) (by as_aux_lemma => kernel_rfl)) (by as_aux_lemma => kernel_rfl)) (by as_aux_lemma => kernel_rfl)) (by as_aux_lemma => kernel_rfl)) (by as_aux_lemma => kernel_rfl)) (by as_aux_lemma => kernel_rfl)) (by as_aux_lemma => kernel_rfl)) (by as_aux_lemma => kernel_rfl)) (by as_aux_lemma => kernel_rfl)) (by as_aux_lemma => kernel_rfl)) (by as_aux_lemma => kernel_rfl)) (by as_aux_lemma => kernel_rfl)) (by as_aux_lemma => kernel_rfl)) (by as_aux_lemma => kernel_rfl)) (by as_aux_lemma => kernel_rfl)) (by as_aux_lemma => kernel_rfl)) (by as_aux_lemma => kernel_rfl)) (by as_aux_lemma => kernel_rfl)) (by as_aux_lemma => kernel_rfl)) (by as_aux_lemma => kernel_rfl)) (by as_aux_lemma => kernel_rfl)) (by as_aux_lemma => kernel_rfl)) (by as_aux_lemma => kernel_rfl)) (by as_aux_lemma => kernel_rfl)
theorem trainTurns_q3 : Try.f3.isInstance Try.checked.prog Rows.trainTurnsRow.origin Rows.trainTurnsRow.targs := (of_decide_eq_true (by kernel_rfl))
theorem trainTurns_q4 : Try.f3.isWrapper Try.checked.prog Rows.trainTurnsRow.wrapper Rows.trainTurnsRow.mainSum := (by unfold Func.isWrapper; first | (rw [if_pos (by decide +kernel)]; kernel_rfl) | (rw [if_neg (by decide +kernel)]; exact ⟨rfl, rfl⟩))
theorem trainTurns_q5 : ∀ os : Os, os.Started → ∀ (H : Type) (enc : TypeId × Value → H), (∀ a b, enc a = enc b → a = b) →
    ReturnsInHanded Rows.trainTurnsRow.assume Try.checked os 3 .any (Rows.trainTurnsRow.pre enc Try.checked.prog Try.f3 (OpenSpec.ofChange Rows.trainTurnsSpec)) (Rows.trainTurnsSpec.post enc Try.checked.prog Try.f3 Rows.trainTurnsRow.apart Rows.trainTurnsRow.fresh Rows.trainTurnsRow.handsOn Rows.trainTurnsRow.again) := fun os started H enc _ => trainTurns_lifted os started H enc
theorem trainTurns_said : Rows.TrainTurnsSaid :=
  OpenClaim.holds_of_wide 3 Try.f3 rfl rfl rfl rfl rfl rfl rfl ⟨rfl, rfl, rfl, rfl, rfl⟩ rfl rfl rfl rfl rfl trainTurns_q1 Try.func3 trainTurns_q2 trainTurns_q3 trainTurns_q4 trainTurns_q5
end Go.Proofs.Ytabjhlfgcmmbfaa.Sy
namespace Go.Proofs.Ytabjhlfgcmmbfaa
theorem trainTurns_holds : Rows.TrainTurnsSaid := Sy.trainTurns_said
#print axioms trainTurns_holds
end Go.Proofs.Ytabjhlfgcmmbfaa
