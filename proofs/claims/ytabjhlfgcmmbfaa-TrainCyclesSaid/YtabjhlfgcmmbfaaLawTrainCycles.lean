/- After a cycle of a train all its arbors stand as at first. -/
import Derived.Test.YtabjhlfgcmmbfaaRows
import Derived.Test.YtabjhlfgcmmbfaaEvTrainCycles
import Derived.Test.YtabjhlfgcmmbfaaSymO
import Derived.Test.YtabjhlfgcmmbfaaChecked
import Derived.ProofKit
import Derived.ShutString
import Derived.ChangeOld
set_option linter.unusedSimpArgs false
set_option linter.unusedVariables false
namespace Go.Proofs.Ytabjhlfgcmmbfaa.Sy
open Go.ChangeShapes Go.WideShapes Go.ChangeAt Go.RowKit

theorem trainCycles_op5 : Opens Try.prog 5 1 (fun x : Int => [D.v (.int .u8 x)]) (fun x => (Lit.int .u8 x).wf = true) := opens_int Try.underlying5 (by kernel_rfl)
theorem trainCycles_op76 : Opens Try.prog 76 2 (fun x : Int × Int => [D.v (.int .u8 x.1), D.v (.int .u8 x.2)]) (fun x => (Lit.int .u8 x.1).wf = true ∧ (Lit.int .u8 x.2).wf = true) := (opens_array (m := 2) (s := 1) Try.underlying76 (by kernel_rfl) (by kernel_rfl) (parts_cons trainCycles_op5 (parts_cons trainCycles_op5 parts_nil))).map (fun p => (p.1, p.2.1)) (fun _ => rfl) (fun p h => ⟨h.1, h.2.1⟩)
theorem trainCycles_op75 : Opens Try.prog 75 1 (fun x : (List (Int × Int)) => [D.s 2 (List.map (fun el76 : Int × Int => [D.v (.int .u8 el76.1), D.v (.int .u8 el76.2)]) x)]) (fun x => ((x).length ≤ maxLen ∧ ∀ el76 ∈ x, (Lit.int .u8 el76.1).wf = true ∧ (Lit.int .u8 el76.2).wf = true)) := opens_slice Try.underlying75 (by kernel_rfl) (by decide) trainCycles_op76
theorem trainCycles_own : ownKnob Try.prog.godebug = none := by kernel_rfl
theorem trainCycles_laid : laidOutB Try.prog = true := by kernel_rfl
set_option maxRecDepth 100000 in
set_option maxHeartbeats 1000000 in
theorem trainCycles_lifted (os : Os) (started : os.Started) (H : Type) (enc : TypeId × Value → H) :
    ReturnsInHanded {} Try.checked os 9 .any (Rows.trainCyclesSpec.pre6 enc Try.prog Try.f9 Rows.trainCyclesRow.domain false) (Rows.trainCyclesSpec.post enc Try.prog Try.f9 false true false false) := by
  refine returnsInHanded_of_change (C := Try.checked) trainCycles_own started (by kernel_rfl) Try.func9
    (ChangeSpec.witness6 (enc := enc) (C := Try.checked) false ⟨#[], #[.slice none 0 0, .int .u16 0], []⟩ 8 (by kernel_rfl) (by kernel_rfl) (by kernel_rfl) (by kernel_rfl)) ?_
  intro W base args ds gs before hval0 hW hcnd _
  have hval : ∀ (j : Nat) t v, Try.f9.params[j]? = some t → args[j]? = some v → Value.okWide Try.prog W .any base t v := hval0
  have hW' := hW
  obtain ⟨p, q, hA0, hV, rfl, hfz, hnd⟩ := hW
  have hA : DataW.TrodAll enc Try.prog W 0 (fun _ => true) true Try.f9.params.toList args.toList ds p := hA0
  rw [Try.params9] at hA hval
  obtain ⟨v0, vs0, d0, ds0, p0, q0, hargs, rfl, rfl, h0, r0⟩ := trodAll_cons hA
  obtain ⟨v1, vs1, d1, ds1, p1, q1, rfl, rfl, rfl, h1, r1⟩ := trodAll_cons r0
  obtain ⟨rfl, rfl, rfl⟩ := trodAll_nil r1
  obtain rfl : args = #[v0, v1] := by cases args; simp_all
  obtain ⟨rfl, rfl⟩ := trodVars_none hV
  have k0 := h0
  have lt0 : ∀ x ∈ p0, x.block < W.heap.size := by obtain ⟨m, hm⟩ := k0; exact DataW.trod_lt m _ _ _ hm
  have k1 := h1
  have lt1 : ∀ x ∈ p1, x.block < W.heap.size := by obtain ⟨m, hm⟩ := k1; exact DataW.trod_lt m _ _ _ hm
  obtain ⟨a0, w0, rd0⟩ := arg_slice Try.underlying75 trainCycles_op75 (hval 0 75 v0 rfl rfl) h0
  obtain ⟨b0, n0, c0, rfl⟩ := reads_slice rd0
  obtain ⟨a1, rfl, _, _, w1⟩ := open_int Try.underlying72 (hval 1 72 v1 rfl rfl) h1
  clear hA0 hval0
  obtain ⟨fuel, hev⟩ := trainCycles_evx w0 w1
  refine (FC.run (fc_law01_TrainCycles hev) (fun k => if k = 0 then (.slice b0 n0 c0) else .bool false) rfl (fun y hy => ?_)).mono fun e W' ⟨he, bel⟩ => ?_
  · simp only [List.mem_cons, List.not_mem_nil, or_false] at hy
    rcases hy with rfl
    · exact rd0
  subst he
  exact ⟨_, rfl, _, _, _, [], _, [], hW', trodAll_mk1 (shut_bool Try.underlying4 _), (trodAll_cons_mk (Below.trod trainCycles_laid (by kernel_rfl) (of_decide_eq_true (by kernel_rfl)) k0 bel lt0) (trodAll_cons_mk (Below.trod trainCycles_laid (by kernel_rfl) (of_decide_eq_true (by kernel_rfl)) k1 bel lt1) trodAll_mk0)), rfl, bel.frame _, fun h => by cases h⟩

theorem trainCycles_q1 : Try.checked.prog.funcNamed Rows.trainCyclesRow.func = some 9 := by kernel_rfl
theorem trainCycles_and {a b : Bool} (ha : a = true) (hb : b = true) : (a && b) = true := by rw [ha, hb]; rfl
set_option maxHeartbeats 4000000 in
theorem trainCycles_q2 : joinedFacts Try.checked.prog 9 Try.f9 Rows.trainCyclesSpec Rows.trainCyclesRow = true := by
  unfold joinedFacts
  exact trainCycles_and (trainCycles_and (trainCycles_and (trainCycles_and (trainCycles_and (trainCycles_and (trainCycles_and (trainCycles_and (trainCycles_and (trainCycles_and (trainCycles_and (trainCycles_and (trainCycles_and (trainCycles_and (trainCycles_and (trainCycles_and (trainCycles_and (trainCycles_and (trainCycles_and (trainCycles_and (trainCycles_and (trainCycles_and (trainCycles_and (trainCycles_and (trainCycles_and (trainCycles_and (trainCycles_and (trainCycles_and (trainCycles_and (trainCycles_and (trainCycles_and (by as_aux_lemma => kernel_rfl) (by as_aux_lemma => kernel_rfl)) (by as_aux_lemma => kernel_rfl)) (by as_aux_lemma => kernel_rfl)) (by as_aux_lemma => kernel_rfl)) (by as_aux_lemma => kernel_rfl)) (by as_aux_lemma => kernel_rfl)) (by as_aux_lemma => kernel_rfl)) (by as_aux_lemma => kernel_rfl)) (by as_aux_lemma => kernel_rfl)) (by as_aux_lemma => kernel_rfl)) (by as_aux_lemma => kernel_rfl)) (by as_aux_lemma => kernel_rfl)) (by as_aux_lemma => kernel_rfl)) (by as_aux_lemma => kernel_rfl)) (by as_aux_lemma => kernel_rfl)) (by as_aux_lemma => kernel_rfl)) (by as_aux_lemma => kernel_rfl)) (by as_aux_lemma => kernel_rfl)) (by as_aux_lemma => kernel_rfl)) (by as_aux_lemma => kernel_rfl)) (by as_aux_lemma => kernel_rfl)) (by as_aux_lemma => kernel_rfl)) (by as_aux_lemma => kernel_rfl)) (by as_aux_lemma => kernel_rfl)) (by as_aux_lemma => kernel_rfl)) (by as_aux_lemma => kernel_rfl)) (by as_aux_lemma => kernel_rfl)) (by as_aux_lemma => kernel_rfl)) (by as_aux_lemma => kernel_rfl)) (by as_aux_lemma => kernel_rfl)) (by as_aux_lemma => kernel_rfl)
theorem trainCycles_q3 : Try.f9.isInstance Try.checked.prog Rows.trainCyclesRow.origin Rows.trainCyclesRow.targs := (of_decide_eq_true (by kernel_rfl))
theorem trainCycles_q4 : Try.f9.isWrapper Try.checked.prog Rows.trainCyclesRow.wrapper Rows.trainCyclesRow.mainSum := (by unfold Func.isWrapper; first | (rw [if_pos (by decide +kernel)]; kernel_rfl) | (rw [if_neg (by decide +kernel)]; exact ⟨rfl, rfl⟩))
theorem trainCycles_q5 : ∀ os : Os, os.Started → ∀ (H : Type) (enc : TypeId × Value → H), (∀ a b, enc a = enc b → a = b) →
    ReturnsInHanded Rows.trainCyclesRow.assume Try.checked os 9 .any (Rows.trainCyclesRow.pre enc Try.checked.prog Try.f9 (OpenSpec.ofChange Rows.trainCyclesSpec)) (Rows.trainCyclesSpec.post enc Try.checked.prog Try.f9 Rows.trainCyclesRow.apart Rows.trainCyclesRow.fresh Rows.trainCyclesRow.handsOn Rows.trainCyclesRow.again) := fun os started H enc _ => trainCycles_lifted os started H enc
theorem trainCycles_said : Rows.TrainCyclesSaid :=
  OpenClaim.holds_of_wide 9 Try.f9 rfl rfl rfl rfl rfl rfl rfl ⟨rfl, rfl, rfl, rfl, rfl⟩ rfl rfl rfl rfl rfl trainCycles_q1 Try.func9 trainCycles_q2 trainCycles_q3 trainCycles_q4 trainCycles_q5
end Go.Proofs.Ytabjhlfgcmmbfaa.Sy
namespace Go.Proofs.Ytabjhlfgcmmbfaa
theorem trainCycles_holds : Rows.TrainCyclesSaid := Sy.trainCycles_said
#print axioms trainCycles_holds
end Go.Proofs.Ytabjhlfgcmmbfaa
