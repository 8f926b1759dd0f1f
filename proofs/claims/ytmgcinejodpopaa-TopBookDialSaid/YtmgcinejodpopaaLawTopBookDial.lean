/- What the books say is shown. -/
import Derived.Test.YtmgcinejodpopaaRows
import Derived.Test.YtmgcinejodpopaaEvTopBookDial
import Derived.Test.YtmgcinejodpopaaSymO
import Derived.Test.YtmgcinejodpopaaChecked
import Derived.ProofKit
import Derived.ShutString
import Derived.ChangeOld
set_option linter.unusedSimpArgs false
set_option linter.unusedVariables false
namespace Go.Proofs.Ytmgcinejodpopaa.Sy
open Go.ChangeShapes Go.WideShapes Go.ChangeAt Go.RowKit

theorem topBookDial_op22 : Opens Try.prog 22 1 (fun x : Int => [D.v (.int .u16 x)]) (fun x => (Lit.int .u16 x).wf = true) := opens_int Try.underlying22 (by kernel_rfl)
theorem topBookDial_op132 : Opens Try.prog 132 2 (fun x : Int × Int => [D.v (.int .u16 x.1), D.v (.int .u16 x.2)]) (fun x => (Lit.int .u16 x.1).wf = true ∧ (Lit.int .u16 x.2).wf = true) := (opens_array (m := 2) (s := 1) Try.underlying132 (by kernel_rfl) (by kernel_rfl) (parts_cons topBookDial_op22 (parts_cons topBookDial_op22 parts_nil))).map (fun p => (p.1, p.2.1)) (fun _ => rfl) (fun p h => ⟨h.1, h.2.1⟩)
theorem topBookDial_op130 : Opens Try.prog 130 1 (fun x : (List (Int × Int)) => [D.s 2 (List.map (fun el132 : Int × Int => [D.v (.int .u16 el132.1), D.v (.int .u16 el132.2)]) x)]) (fun x => ((x).length ≤ maxLen ∧ ∀ el132 ∈ x, (Lit.int .u16 el132.1).wf = true ∧ (Lit.int .u16 el132.2).wf = true)) := opens_slice Try.underlying130 (by kernel_rfl) (by decide) topBookDial_op132
theorem topBookDial_own : ownKnob Try.prog.godebug = none := by kernel_rfl
theorem topBookDial_laid : laidOutB Try.prog = true := by kernel_rfl
set_option maxRecDepth 100000 in
set_option maxHeartbeats 1000000 in
theorem topBookDial_lifted (os : Os) (started : os.Started) (H : Type) (enc : TypeId × Value → H) :
    ReturnsInHanded {} Try.checked os 10 .any (Rows.topBookDialSpec.pre6 enc Try.prog Try.f10 Rows.topBookDialRow.domain false) (Rows.topBookDialSpec.post enc Try.prog Try.f10 false true false false) := by
  refine returnsInHanded_of_change (C := Try.checked) topBookDial_own started (by kernel_rfl) Try.func10
    (ChangeSpec.witness6 (enc := enc) (C := Try.checked) false ⟨#[], #[.slice none 0 0, .int .u32 0], []⟩ 8 (by kernel_rfl) (by kernel_rfl) (by kernel_rfl) (by kernel_rfl)) ?_
  intro W base args ds gs before hval0 hW hcnd _
  have hval : ∀ (j : Nat) t v, Try.f10.params[j]? = some t → args[j]? = some v → Value.okWide Try.prog W .any base t v := hval0
  have hW' := hW
  obtain ⟨p, q, hA0, hV, rfl, hfz, hnd⟩ := hW
  have hA : DataW.TrodAll enc Try.prog W 0 (fun _ => true) true Try.f10.params.toList args.toList ds p := hA0
  rw [Try.params10] at hA hval
  obtain ⟨v0, vs0, d0, ds0, p0, q0, hargs, rfl, rfl, h0, r0⟩ := trodAll_cons hA
  obtain ⟨v1, vs1, d1, ds1, p1, q1, rfl, rfl, rfl, h1, r1⟩ := trodAll_cons r0
  obtain ⟨rfl, rfl, rfl⟩ := trodAll_nil r1
  obtain rfl : args = #[v0, v1] := by cases args; simp_all
  obtain ⟨rfl, rfl⟩ := trodVars_none hV
  have k0 := h0
  have lt0 : ∀ x ∈ p0, x.block < W.heap.size := by obtain ⟨m, hm⟩ := k0; exact DataW.trod_lt m _ _ _ hm
  have k1 := h1
  have lt1 : ∀ x ∈ p1, x.block < W.heap.size := by obtain ⟨m, hm⟩ := k1; exact DataW.trod_lt m _ _ _ hm
  obtain ⟨a0, w0, rd0⟩ := arg_slice Try.underlying130 topBookDial_op130 (hval 0 130 v0 rfl rfl) h0
  obtain ⟨b0, n0, c0, rfl⟩ := reads_slice rd0
  obtain ⟨a1, rfl, _, _, w1⟩ := open_int Try.underlying131 (hval 1 131 v1 rfl rfl) h1
  clear hA0 hval0
  obtain ⟨fuel, hev⟩ := topBookDial_evx w0 w1
  refine (FC.run (fc_top_TopBookDial hev) (fun k => if k = 0 then (.slice b0 n0 c0) else .bool false) rfl (fun y hy => ?_)).mono fun e W' ⟨he, bel⟩ => ?_
  · simp only [List.mem_cons, List.not_mem_nil, or_false] at hy
    rcases hy with rfl
    · exact rd0
  subst he
  exact ⟨_, rfl, _, _, _, [], _, [], hW', trodAll_mk1 (shut_bool Try.underlying4 _), (trodAll_cons_mk (Below.trod topBookDial_laid (by kernel_rfl) (of_decide_eq_true (by kernel_rfl)) k0 bel lt0) (trodAll_cons_mk (Below.trod topBookDial_laid (by kernel_rfl) (of_decide_eq_true (by kernel_rfl)) k1 bel lt1) trodAll_mk0)), rfl, bel.frame _, fun h => by cases h⟩

theorem topBookDial_q1 : Try.checked.prog.funcNamed Rows.topBookDialRow.func = some 10 := by kernel_rfl
theorem topBookDial_and {a b : Bool} (ha : a = true) (hb : b = true) : (a && b) = true := by rw [ha, hb]; rfl
set_option maxHeartbeats 4000000 in
theorem topBookDial_q2 : joinedFacts Try.checked.prog 10 Try.f10 Rows.topBookDialSpec Rows.topBookDialRow = true := by
  unfold joinedFacts
  exact topBookDial_and (topBookDial_and (topBookDial_and (topBookDial_and (topBookDial_and (topBookDial_and (topBookDial_and (topBookDial_and (topBookDial_and (topBookDial_and (topBookDial_and (topBookDial_and (topBookDial_and (topBookDial_and (topBookDial_and (topBookDial_and (topBookDial_and (topBookDial_and (topBookDial_and (topBookDial_and (topBookDial_and (topBookDial_and (topBookDial_and (topBookDial_and (topBookDial_and (topBookDial_and (topBookDial_and (topBookDial_and (topBookDial_and (topBookDial_and (topBookDial_and (by as_aux_lemma => kernel_rfl) (by as_aux_lemma => kernel_rfl)) (by as_aux_lemma => kernel_rfl)) (by as_aux_lemma => kernel_rfl)) (by as_aux_lemma => kernel_rfl)) (by as_aux_lemma => kernel_rfl)) (by as_aux_lemma => kernel_rfl)) (by as_aux_lemma => kernel_rfl)) (by as_aux_lemma => kernel_rfl)) (by as_aux_lemma => kernel_rfl)) (by as_aux_lemma => kernel_rfl)) (by as_aux_lemma => kernel_rfl)) (by as_aux_lemma => kernel_rfl)) (by as_aux_lemma => kernel_rfl)) (by as_aux_lemma => kernel_rfl)) (by as_aux_lemma => kernel_rfl)) (by as_aux_lemma => kernel_rfl)) (by as_aux_lemma => kernel_rfl)) (by as_aux_lemma => kernel_rfl)) (by as_aux_lemma => kernel_rfl)) (by as_aux_lemma => kernel_rfl)) (by as_aux_lemma => kernel_rfl)) (by as_aux_lemma => kernel_rfl)) (by as_aux_lemma => kernel_rfl)) (by as_aux_lemma => kernel_rfl)) (by as_aux_lemma => kernel_rfl)) (by as_aux_lemma => kernel_rfl)) (by as_aux_lemma => kernel_rfl)) (by as_aux_lemma => kernel_rfl)) (by as_aux_lemma => kernel_rfl)) (by as_aux_lemma => kernel_rfl)) (by as_aux_lemma => kernel_rfl)
theorem topBookDial_q3 : Try.f10.isInstance Try.checked.prog Rows.topBookDialRow.origin Rows.topBookDialRow.targs := (of_decide_eq_true (by kernel_rfl))
theorem topBookDial_q4 : Try.f10.isWrapper Try.checked.prog Rows.topBookDialRow.wrapper Rows.topBookDialRow.mainSum := (by unfold Func.isWrapper; first | (rw [if_pos (by decide +kernel)]; kernel_rfl) | (rw [if_neg (by decide +kernel)]; exact ⟨rfl, rfl⟩))
theorem topBookDial_q5 : ∀ os : Os, os.Started → ∀ (H : Type) (enc : TypeId × Value → H), (∀ a b, enc a = enc b → a = b) →
    ReturnsInHanded Rows.topBookDialRow.assume Try.checked os 10 .any (Rows.topBookDialRow.pre enc Try.checked.prog Try.f10 (OpenSpec.ofChange Rows.topBookDialSpec)) (Rows.topBookDialSpec.post enc Try.checked.prog Try.f10 Rows.topBookDialRow.apart Rows.topBookDialRow.fresh Rows.topBookDialRow.handsOn Rows.topBookDialRow.again) := fun os started H enc _ => topBookDial_lifted os started H enc
theorem topBookDial_said : Rows.TopBookDialSaid :=
  OpenClaim.holds_of_wide 10 Try.f10 rfl rfl rfl rfl rfl rfl rfl ⟨rfl, rfl, rfl, rfl, rfl⟩ rfl rfl rfl rfl rfl topBookDial_q1 Try.func10 topBookDial_q2 topBookDial_q3 topBookDial_q4 topBookDial_q5
end Go.Proofs.Ytmgcinejodpopaa.Sy
namespace Go.Proofs.Ytmgcinejodpopaa
theorem topBookDial_holds : Rows.TopBookDialSaid := Sy.topBookDial_said
#print axioms topBookDial_holds
end Go.Proofs.Ytmgcinejodpopaa
