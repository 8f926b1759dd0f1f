/- The wages of rounds. -/
import Derived.Test.YtmgcinejodpopaaRows
import Derived.Test.YtmgcinejodpopaaEvTopRoundWages
import Derived.Test.YtmgcinejodpopaaSymO
import Derived.Test.YtmgcinejodpopaaChecked
import Derived.ProofKit
import Derived.ShutString
import Derived.ChangeOld
set_option linter.unusedSimpArgs false
set_option linter.unusedVariables false
namespace Go.Proofs.Ytmgcinejodpopaa.Sy
open Go.ChangeShapes Go.WideShapes Go.ChangeAt Go.RowKit

theorem topRoundWages_op5 : Opens Try.prog 5 1 (fun x : Int => [D.v (.int .u8 x)]) (fun x => (Lit.int .u8 x).wf = true) := opens_int Try.underlying5 (by kernel_rfl)
theorem topRoundWages_op56 : Opens Try.prog 56 1 (fun x : (List Int) => [D.s 1 (List.map (fun el5 : Int => [D.v (.int .u8 el5)]) x)]) (fun x => ((x).length ≤ maxLen ∧ ∀ el5 ∈ x, (Lit.int .u8 el5).wf = true)) := opens_slice Try.underlying56 (by kernel_rfl) (by decide) topRoundWages_op5
theorem topRoundWages_own : ownKnob Try.prog.godebug = none := by kernel_rfl
theorem topRoundWages_laid : laidOutB Try.prog = true := by kernel_rfl
set_option maxRecDepth 100000 in
set_option maxHeartbeats 1000000 in
theorem topRoundWages_lifted (os : Os) (started : os.Started) (H : Type) (enc : TypeId × Value → H) :
    ReturnsInHanded {} Try.checked os 6 .any (Rows.topRoundWagesSpec.pre6 enc Try.prog Try.f6 Rows.topRoundWagesRow.domain false) (Rows.topRoundWagesSpec.post enc Try.prog Try.f6 false true false false) := by
  refine returnsInHanded_of_change (C := Try.checked) topRoundWages_own started (by kernel_rfl) Try.func6
    (ChangeSpec.witness6 (enc := enc) (C := Try.checked) false ⟨#[], #[.slice none 0 0, .int .u8 0], []⟩ 8 (by kernel_rfl) (by kernel_rfl) (by kernel_rfl) (by kernel_rfl)) ?_
  intro W base args ds gs before hval0 hW hcnd _
  have hval : ∀ (j : Nat) t v, Try.f6.params[j]? = some t → args[j]? = some v → Value.okWide Try.prog W .any base t v := hval0
  have hW' := hW
  obtain ⟨p, q, hA0, hV, rfl, hfz, hnd⟩ := hW
  have hA : DataW.TrodAll enc Try.prog W 0 (fun _ => true) true Try.f6.params.toList args.toList ds p := hA0
  rw [Try.params6] at hA hval
  obtain ⟨v0, vs0, d0, ds0, p0, q0, hargs, rfl, rfl, h0, r0⟩ := trodAll_cons hA
  obtain ⟨v1, vs1, d1, ds1, p1, q1, rfl, rfl, rfl, h1, r1⟩ := trodAll_cons r0
  obtain ⟨rfl, rfl, rfl⟩ := trodAll_nil r1
  obtain rfl : args = #[v0, v1] := by cases args; simp_all
  obtain ⟨rfl, rfl⟩ := trodVars_none hV
  have k0 := h0
  have lt0 : ∀ x ∈ p0, x.block < W.heap.size := by obtain ⟨m, hm⟩ := k0; exact DataW.trod_lt m _ _ _ hm
  have k1 := h1
  have lt1 : ∀ x ∈ p1, x.block < W.heap.size := by obtain ⟨m, hm⟩ := k1; exact DataW.trod_lt m _ _ _ hm
  obtain ⟨a0, w0, rd0⟩ := arg_slice Try.underlying56 topRoundWages_op56 (hval 0 56 v0 rfl rfl) h0
  obtain ⟨b0, n0, c0, rfl⟩ := reads_slice rd0
  obtain ⟨a1, rfl, _, _, w1⟩ := open_int Try.underlying5 (hval 1 5 v1 rfl rfl) h1
  clear hA0 hval0
  obtain ⟨fuel, hev⟩ := topRoundWages_evx w0 w1
  refine (FC.run (fc_top_TopRoundWages hev) (fun k => if k = 0 then (.slice b0 n0 c0) else .bool false) rfl (fun y hy => ?_)).mono fun e W' ⟨he, bel⟩ => ?_
  · simp only [List.mem_cons, List.not_mem_nil, or_false] at hy
    rcases hy with rfl
    · exact rd0
  subst he
  exact ⟨_, rfl, _, _, _, [], _, [], hW', trodAll_mk1 (shut_bool Try.underlying4 _), (trodAll_cons_mk (Below.trod topRoundWages_laid (by kernel_rfl) (of_decide_eq_true (by kernel_rfl)) k0 bel lt0) (trodAll_cons_mk (Below.trod topRoundWages_laid (by kernel_rfl) (of_decide_eq_true (by kernel_rfl)) k1 bel lt1) trodAll_mk0)), rfl, bel.frame _, fun h => by cases h⟩

theorem topRoundWages_q1 : Try.checked.prog.funcNamed Rows.topRoundWagesRow.func = some 6 := by kernel_rfl
theorem topRoundWages_and {a b : Bool} (ha : a = true) (hb : b = true) : (a && b) = true := by rw [ha, hb]; rfl
set_option maxHeartbeats 4000000 in
theorem topRoundWages_q2 : joinedFacts Try.checked.prog 6 Try.f6 Rows.topRoundWagesSpec Rows.topRoundWagesRow = true := by
  unfold joinedFacts
  exact topRoundWages_and (topRoundWages_and (topRoundWages_and (topRoundWages_and (topRoundWages_and (topRoundWages_and (topRoundWages_and (topRoundWages_and (topRoundWages_and (topRoundWages_and (topRoundWages_and (topRoundWages_and (topRoundWages_and (topRoundWages_and (topRoundWages_and (topRoundWages_and (topRoundWages_and (topRoundWages_and (topRoundWages_and (topRoundWages_and (topRoundWages_and (topRoundWages_and (topRoundWages_and (topRoundWages_and (topRoundWages_and (topRoundWages_and (topRoundWages_and (topRoundWages_and (topRoundWages_and (topRoundWages_and (topRoundWages_and (by as_aux_lemma => kernel_rfl) (by as_aux_lemma => kernel_rfl)) (by as_aux_lemma => kernel_rfl)) (by as_aux_lemma => kernel_rfl)) (by as_aux_lemma => kernel_rfl)) (by as_aux_lemma => kernel_rfl)) (by as_aux_lemma => kernel_rfl)) (by as_aux_lemma => kernel_rfl)) (by as_aux_lemma => kernel_rfl)) (by as_aux_lemma => kernel_rfl)) (by as_aux_lemma => kernel_rfl)) (by as_aux_lemma => kernel_rfl)) (by as_aux_lemma => kernel_rfl)) (by as_aux_lemma => kernel_rfl)) (by as_aux_lemma => kernel_rfl)) (by as_aux_lemma => kernel_rfl)) (by as_aux_lemma => kernel_rfl)) (by as_aux_lemma => kernel_rfl)) (by as_aux_lemma => kernel_rfl)) (by as_aux_lemma => kernel_rfl)) (by as_aux_lemma => kernel_rfl)) (by as_aux_lemma => kernel_rfl)) (by as_aux_lemma => kernel_rfl)) (by as_aux_lemma => kernel_rfl)) (by as_aux_lemma => kernel_rfl)) (by as_aux_lemma => kernel_rfl)) (by as_aux_lemma => kernel_rfl)) (by as_aux_lemma => kernel_rfl)) (by as_aux_lemma => kernel_rfl)) (by as_aux_lemma => kernel_rfl)) (by as_aux_lemma => kernel_rfl)) (by as_aux_lemma => kernel_rfl)
theorem topRoundWages_q3 : Try.f6.isInstance Try.checked.prog Rows.topRoundWagesRow.origin Rows.topRoundWagesRow.targs := (of_decide_eq_true (by kernel_rfl))
theorem topRoundWages_q4 : Try.f6.isWrapper Try.checked.prog Rows.topRoundWagesRow.wrapper Rows.topRoundWagesRow.mainSum := (by unfold Func.isWrapper; first | (rw [if_pos (by decide +kernel)]; kernel_rfl) | (rw [if_neg (by decide +kernel)]; exact ⟨rfl, rfl⟩))
theorem topRoundWages_q5 : ∀ os : Os, os.Started → ∀ (H : Type) (enc : TypeId × Value → H), (∀ a b, enc a = enc b → a = b) →
    ReturnsInHanded Rows.topRoundWagesRow.assume Try.checked os 6 .any (Rows.topRoundWagesRow.pre enc Try.checked.prog Try.f6 (OpenSpec.ofChange Rows.topRoundWagesSpec)) (Rows.topRoundWagesSpec.post enc Try.checked.prog Try.f6 Rows.topRoundWagesRow.apart Rows.topRoundWagesRow.fresh Rows.topRoundWagesRow.handsOn Rows.topRoundWagesRow.again) := fun os started H enc _ => topRoundWages_lifted os started H enc
theorem topRoundWages_said : Rows.TopRoundWagesSaid :=
  OpenClaim.holds_of_wide 6 Try.f6 rfl rfl rfl rfl rfl rfl rfl ⟨rfl, rfl, rfl, rfl, rfl⟩ rfl rfl rfl rfl rfl topRoundWages_q1 Try.func6 topRoundWages_q2 topRoundWages_q3 topRoundWages_q4 topRoundWages_q5
end Go.Proofs.Ytmgcinejodpopaa.Sy
namespace Go.Proofs.Ytmgcinejodpopaa
theorem topRoundWages_holds : Rows.TopRoundWagesSaid := Sy.topRoundWages_said
#print axioms topRoundWages_holds
end Go.Proofs.Ytmgcinejodpopaa
