/- From the barrel. -/
import Derived.Test.YtgkoldcmbcbbpaaRows
import Derived.Test.YtgkoldcmbcbbpaaEvTopTrainDrop
import Derived.Test.YtgkoldcmbcbbpaaSymO
import Derived.Test.YtgkoldcmbcbbpaaChecked
import Derived.ProofKit
import Derived.ShutString
import Derived.ChangeOld
set_option linter.unusedSimpArgs false
set_option linter.unusedVariables false
namespace Go.Proofs.Ytgkoldcmbcbbpaa.Sy
open Go.ChangeShapes Go.WideShapes Go.ChangeAt Go.RowKit

theorem topTrainDrop_op5 : Opens Try.prog 5 1 (fun x : Int => [D.v (.int .u8 x)]) (fun x => (Lit.int .u8 x).wf = true) := opens_int Try.underlying5 (by kernel_rfl)
theorem topTrainDrop_op45 : Opens Try.prog 45 2 (fun x : Int × Int => [D.v (.int .u8 x.1), D.v (.int .u8 x.2)]) (fun x => (Lit.int .u8 x.1).wf = true ∧ (Lit.int .u8 x.2).wf = true) := (opens_array (m := 2) (s := 1) Try.underlying45 (by kernel_rfl) (by kernel_rfl) (parts_cons topTrainDrop_op5 (parts_cons topTrainDrop_op5 parts_nil))).map (fun p => (p.1, p.2.1)) (fun _ => rfl) (fun p h => ⟨h.1, h.2.1⟩)
theorem topTrainDrop_op22 : Opens Try.prog 22 1 (fun x : (List (Int × Int)) => [D.s 2 (List.map (fun el45 : Int × Int => [D.v (.int .u8 el45.1), D.v (.int .u8 el45.2)]) x)]) (fun x => ((x).length ≤ maxLen ∧ ∀ el45 ∈ x, (Lit.int .u8 el45.1).wf = true ∧ (Lit.int .u8 el45.2).wf = true)) := opens_slice Try.underlying22 (by kernel_rfl) (by decide) topTrainDrop_op45
theorem topTrainDrop_own : ownKnob Try.prog.godebug = none := by kernel_rfl
theorem topTrainDrop_laid : laidOutB Try.prog = true := by kernel_rfl
set_option maxRecDepth 100000 in
set_option maxHeartbeats 1000000 in
theorem topTrainDrop_lifted (os : Os) (started : os.Started) (H : Type) (enc : TypeId × Value → H) :
    ReturnsInHanded {} Try.checked os 3 .any (Rows.topTrainDropSpec.pre6 enc Try.prog Try.f3 Rows.topTrainDropRow.domain false) (Rows.topTrainDropSpec.post enc Try.prog Try.f3 false true false false) := by
  refine returnsInHanded_of_change (C := Try.checked) topTrainDrop_own started (by kernel_rfl) Try.func3
    (ChangeSpec.witness6 (enc := enc) (C := Try.checked) false ⟨#[], #[.slice none 0 0, .int .u8 0, .int .u8 0], []⟩ 8 (by kernel_rfl) (by kernel_rfl) (by kernel_rfl) (by kernel_rfl)) ?_
  intro W base args ds gs before hval0 hW hcnd _
  have hval : ∀ (j : Nat) t v, Try.f3.params[j]? = some t → args[j]? = some v → Value.okWide Try.prog W .any base t v := hval0
  have hW' := hW
  obtain ⟨p, q, hA0, hV, rfl, hfz, hnd⟩ := hW
  have hA : DataW.TrodAll enc Try.prog W 0 (fun _ => true) true Try.f3.params.toList args.toList ds p := hA0
  rw [Try.params3] at hA hval
  obtain ⟨v0, vs0, d0, ds0, p0, q0, hargs, rfl, rfl, h0, r0⟩ := trodAll_cons hA
  obtain ⟨v1, vs1, d1, ds1, p1, q1, rfl, rfl, rfl, h1, r1⟩ := trodAll_cons r0
  obtain ⟨v2, vs2, d2, ds2, p2, q2, rfl, rfl, rfl, h2, r2⟩ := trodAll_cons r1
  obtain ⟨rfl, rfl, rfl⟩ := trodAll_nil r2
  obtain rfl : args = #[v0, v1, v2] := by cases args; simp_all
  obtain ⟨rfl, rfl⟩ := trodVars_none hV
  have k0 := h0
  have lt0 : ∀ x ∈ p0, x.block < W.heap.size := by obtain ⟨m, hm⟩ := k0; exact DataW.trod_lt m _ _ _ hm
  have k1 := h1
  have lt1 : ∀ x ∈ p1, x.block < W.heap.size := by obtain ⟨m, hm⟩ := k1; exact DataW.trod_lt m _ _ _ hm
  have k2 := h2
  have lt2 : ∀ x ∈ p2, x.block < W.heap.size := by obtain ⟨m, hm⟩ := k2; exact DataW.trod_lt m _ _ _ hm
  obtain ⟨a0, w0, rd0⟩ := arg_slice Try.underlying22 topTrainDrop_op22 (hval 0 22 v0 rfl rfl) h0
  obtain ⟨b0, n0, c0, rfl⟩ := reads_slice rd0
  obtain ⟨a1, rfl, _, _, w1⟩ := open_int Try.underlying5 (hval 1 5 v1 rfl rfl) h1
  obtain ⟨a2, rfl, _, _, w2⟩ := open_int Try.underlying5 (hval 2 5 v2 rfl rfl) h2
  clear hA0 hval0
  obtain ⟨fuel, hev⟩ := topTrainDrop_evx w0 w1 w2
  refine (FC.run (fc_top_TopTrainDrop hev) (fun k => if k = 0 then (.slice b0 n0 c0) else .bool false) rfl (fun y hy => ?_)).mono fun e W' ⟨he, bel⟩ => ?_
  · simp only [List.mem_cons, List.not_mem_nil, or_false] at hy
    rcases hy with rfl
    · exact rd0
  subst he
  exact ⟨_, rfl, _, _, _, [], _, [], hW', trodAll_mk1 (shut_bool Try.underlying4 _), (trodAll_cons_mk (Below.trod topTrainDrop_laid (by kernel_rfl) (of_decide_eq_true (by kernel_rfl)) k0 bel lt0) (trodAll_cons_mk (Below.trod topTrainDrop_laid (by kernel_rfl) (of_decide_eq_true (by kernel_rfl)) k1 bel lt1) (trodAll_cons_mk (Below.trod topTrainDrop_laid (by kernel_rfl) (of_decide_eq_true (by kernel_rfl)) k2 bel lt2) trodAll_mk0))), rfl, bel.frame _, fun h => by cases h⟩

theorem topTrainDrop_q1 : Try.checked.prog.funcNamed Rows.topTrainDropRow.func = some 3 := by kernel_rfl
theorem topTrainDrop_and {a b : Bool} (ha : a = true) (hb : b = true) : (a && b) = true := by rw [ha, hb]; rfl
set_option maxHeartbeats 4000000 in
theorem topTrainDrop_q2 : joinedFacts Try.checked.prog 3 Try.f3 Rows.topTrainDropSpec Rows.topTrainDropRow = true := by
  unfold joinedFacts
  exact topTrainDrop_and (topTrainDrop_and (topTrainDrop_and (topTrainDrop_and (topTrainDrop_and (topTrainDrop_and (topTrainDrop_and (topTrainDrop_and (topTrainDrop_and (topTrainDrop_and (topTrainDrop_and (topTrainDrop_and (topTrainDrop_and (topTrainDrop_and (topTrainDrop_and (topTrainDrop_and (topTrainDrop_and (topTrainDrop_and (topTrainDrop_and (topTrainDrop_and (topTrainDrop_and (topTrainDrop_and (topTrainDrop_and (topTrainDrop_and (topTrainDrop_and (topTrainDrop_and (topTrainDrop_and (topTrainDrop_and (topTrainDrop_and (topTrainDrop_and (topTrainDrop_and (by as_aux_lemma => kernel_rfl) (by as_aux_lemma => kernel_rfl)) (by as_aux_lemma => kernel_rfl)) (by as_aux_lemma => kernel_rfl)) (by as_aux_lemma => kernel_rfl)) (by as_aux_lemma => kernel_rfl)) (by as_aux_lemma => kernel_rfl)) (by as_aux_lemma => kernel_rfl)) (by as_aux_lemma => kernel_rfl)) (by as_aux_lemma => kernel_rfl)) (by as_aux_lemma => kernel_rfl)) (by as_aux_lemma => kernel_rfl)) (by as_aux_lemma => kernel_rfl)) (by as_aux_lemma => kernel_rfl)) (by as_aux_lemma => kernel_rfl)) (by as_aux_lemma => kernel_rfl)) (by as_aux_lemma => kernel_rfl)) (by as_aux_lemma => kernel_rfl)) (by as_aux_lemma => kernel_rfl)) (by as_aux_lemma => kernel_rfl)) (by as_aux_lemma => kernel_rfl)) (by as_aux_lemma => kernel_rfl)) (by as_aux_lemma => kernel_rfl)) (by as_aux_lemma => kernel_rfl)) (by as_aux_lemma => kernel_rfl)) (by as_aux_lemma => kernel_rfl)) (by as_aux_lemma => kernel_rfl)) (by as_aux_lemma => kernel_rfl)) (by as_aux_lemma => kernel_rfl)) (by as_aux_lemma => kernel_rfl)) (by as_aux_lemma => kernel_rfl)) (by as_aux_lemma => kernel_rfl)
theorem topTrainDrop_q3 : Try.f3.isInstance Try.checked.prog Rows.topTrainDropRow.origin Rows.topTrainDropRow.targs := (of_decide_eq_true (by kernel_rfl))
theorem topTrainDrop_q4 : Try.f3.isWrapper Try.checked.prog Rows.topTrainDropRow.wrapper Rows.topTrainDropRow.mainSum := (by unfold Func.isWrapper; first | (rw [if_pos (by decide +kernel)]; kernel_rfl) | (rw [if_neg (by decide +kernel)]; exact ⟨rfl, rfl⟩))
theorem topTrainDrop_q5 : ∀ os : Os, os.Started → ∀ (H : Type) (enc : TypeId × Value → H), (∀ a b, enc a = enc b → a = b) →
    ReturnsInHanded Rows.topTrainDropRow.assume Try.checked os 3 .any (Rows.topTrainDropRow.pre enc Try.checked.prog Try.f3 (OpenSpec.ofChange Rows.topTrainDropSpec)) (Rows.topTrainDropSpec.post enc Try.checked.prog Try.f3 Rows.topTrainDropRow.apart Rows.topTrainDropRow.fresh Rows.topTrainDropRow.handsOn Rows.topTrainDropRow.again) := fun os started H enc _ => topTrainDrop_lifted os started H enc
theorem topTrainDrop_said : Rows.TopTrainDropSaid :=
  OpenClaim.holds_of_wide 3 Try.f3 rfl rfl rfl rfl rfl rfl rfl ⟨rfl, rfl, rfl, rfl, rfl⟩ rfl rfl rfl rfl rfl topTrainDrop_q1 Try.func3 topTrainDrop_q2 topTrainDrop_q3 topTrainDrop_q4 topTrainDrop_q5
end Go.Proofs.Ytgkoldcmbcbbpaa.Sy
namespace Go.Proofs.Ytgkoldcmbcbbpaa
theorem topTrainDrop_holds : Rows.TopTrainDropSaid := Sy.topTrainDrop_said
#print axioms topTrainDrop_holds
end Go.Proofs.Ytgkoldcmbcbbpaa
