/- The weight of a strike. -/
import Derived.Test.YtgkoldcmbcbbpaaRows
import Derived.Test.YtgkoldcmbcbbpaaEvTopStrikeDrop
import Derived.Test.YtgkoldcmbcbbpaaSymO
import Derived.Test.YtgkoldcmbcbbpaaChecked
import Derived.ProofKit
import Derived.ShutString
import Derived.ChangeOld
set_option linter.unusedSimpArgs false
set_option linter.unusedVariables false
namespace Go.Proofs.Ytgkoldcmbcbbpaa.Sy
open Go.ChangeShapes Go.WideShapes Go.ChangeAt Go.RowKit

theorem topStrikeDrop_op5 : Opens Try.prog 5 1 (fun x : Int => [D.v (.int .u8 x)]) (fun x => (Lit.int .u8 x).wf = true) := opens_int Try.underlying5 (by kernel_rfl)
theorem topStrikeDrop_op45 : Opens Try.prog 45 2 (fun x : Int × Int => [D.v (.int .u8 x.1), D.v (.int .u8 x.2)]) (fun x => (Lit.int .u8 x.1).wf = true ∧ (Lit.int .u8 x.2).wf = true) := (opens_array (m := 2) (s := 1) Try.underlying45 (by kernel_rfl) (by kernel_rfl) (parts_cons topStrikeDrop_op5 (parts_cons topStrikeDrop_op5 parts_nil))).map (fun p => (p.1, p.2.1)) (fun _ => rfl) (fun p h => ⟨h.1, h.2.1⟩)
theorem topStrikeDrop_own : ownKnob Try.prog.godebug = none := by kernel_rfl
theorem topStrikeDrop_laid : laidOutB Try.prog = true := by kernel_rfl
set_option maxRecDepth 100000 in
set_option maxHeartbeats 1000000 in
theorem topStrikeDrop_lifted (os : Os) (started : os.Started) (H : Type) (enc : TypeId × Value → H) :
    ReturnsInHanded {} Try.checked os 4 .any (Rows.topStrikeDropSpec.pre6 enc Try.prog Try.f4 Rows.topStrikeDropRow.domain false) (Rows.topStrikeDropSpec.post enc Try.prog Try.f4 false true false false) := by
  refine returnsInHanded_of_change (C := Try.checked) topStrikeDrop_own started (by kernel_rfl) Try.func4
    (ChangeSpec.witness6 (enc := enc) (C := Try.checked) false ⟨#[], #[.agg #[.int .u8 0, .int .u8 0], .int .u8 0, .int .u16 0], []⟩ 8 (by kernel_rfl) (by kernel_rfl) (by kernel_rfl) (by kernel_rfl)) ?_
  intro W base args ds gs before hval0 hW hcnd _
  have hval : ∀ (j : Nat) t v, Try.f4.params[j]? = some t → args[j]? = some v → Value.okWide Try.prog W .any base t v := hval0
  have hW' := hW
  obtain ⟨p, q, hA0, hV, rfl, hfz, hnd⟩ := hW
  have hA : DataW.TrodAll enc Try.prog W 0 (fun _ => true) true Try.f4.params.toList args.toList ds p := hA0
  rw [Try.params4] at hA hval
  obtain ⟨v0, vs0, d0, ds0, p0, q0, hargs, rfl, rfl, h0, r0⟩ := trodAll_cons hA
  obtain ⟨v1, vs1, d1, ds1, p1, q1, rfl, rfl, rfl, h1, r1⟩ := trodAll_cons r0
  obtain ⟨v2, vs2, d2, ds2, p2, q2, rfl, rfl, rfl, h2, r2⟩ := trodAll_cons r1
  obtain ⟨rfl, rfl, rfl⟩ := trodAll_nil r2
  obtain rfl : args = #[v0, v1, v2] := by cases args; simp_all
  obtain ⟨rfl, rfl⟩ := trodVars_none hV
  have k0 := h0
  have lt0 : ∀ x ∈ p0, x.block < W.heap.size := by obtain ⟨m, hm⟩ := k0; exact DataW.trod_lt m _ _ _ hm
  have k1 := h1
  have lt1 : ∀ x ∈ p1, x.block < W.heap.size := by obtain ⟨m, hm⟩ := k1; exact DataW.trod_lt m _ _ _ hm
  have k2 := h2
  have lt2 : ∀ x ∈ p2, x.block < W.heap.size := by obtain ⟨m, hm⟩ := k2; exact DataW.trod_lt m _ _ _ hm
  obtain ⟨a0, cs0, w0, rfl, ok0⟩ := arg_agg (agg_array Try.underlying45 (hval 0 45 v0 rfl rfl)) topStrikeDrop_op45 h0
  obtain ⟨u0_0, cs0_0, rfl, e0_0, ok0_0⟩ := okL_cons ok0
  cases e0_0
  obtain ⟨u0_1, cs0_1, rfl, e0_1, ok0_1⟩ := okL_cons ok0_0
  cases e0_1
  cases okL_nil ok0_1
  obtain ⟨a1, rfl, _, _, w1⟩ := open_int Try.underlying5 (hval 1 5 v1 rfl rfl) h1
  obtain ⟨a2, rfl, _, _, w2⟩ := open_int Try.underlying46 (hval 2 46 v2 rfl rfl) h2
  clear hA0 hval0
  obtain ⟨fuel, hev⟩ := TopStrikeDrop_evx w0 w1 w2
  refine (FC.run (fc_top_TopStrikeDrop hev) (fun k => .bool false) rfl (fun y hy => ?_)).mono fun e W' ⟨he, bel⟩ => ?_
  · cases hy
  subst he
  exact ⟨_, rfl, _, _, _, [], _, [], hW', trodAll_mk1 (shut_bool Try.underlying4 _), (trodAll_cons_mk (Below.trod topStrikeDrop_laid (by kernel_rfl) (of_decide_eq_true (by kernel_rfl)) k0 bel lt0) (trodAll_cons_mk (Below.trod topStrikeDrop_laid (by kernel_rfl) (of_decide_eq_true (by kernel_rfl)) k1 bel lt1) (trodAll_cons_mk (Below.trod topStrikeDrop_laid (by kernel_rfl) (of_decide_eq_true (by kernel_rfl)) k2 bel lt2) trodAll_mk0))), rfl, bel.frame _, fun h => by cases h⟩

theorem topStrikeDrop_q1 : Try.checked.prog.funcNamed Rows.topStrikeDropRow.func = some 4 := by kernel_rfl
theorem topStrikeDrop_and {a b : Bool} (ha : a = true) (hb : b = true) : (a && b) = true := by rw [ha, hb]; rfl
set_option maxHeartbeats 4000000 in
theorem topStrikeDrop_q2 : joinedFacts Try.checked.prog 4 Try.f4 Rows.topStrikeDropSpec Rows.topStrikeDropRow = true := by
  unfold joinedFacts
  exact topStrikeDrop_and (topStrikeDrop_and (topStrikeDrop_and (topStrikeDrop_and (topStrikeDrop_and (topStrikeDrop_and (topStrikeDrop_and (topStrikeDrop_and (topStrikeDrop_and (topStrikeDrop_and (topStrikeDrop_and (topStrikeDrop_and (topStrikeDrop_and (topStrikeDrop_and (topStrikeDrop_and (topStrikeDrop_and (topStrikeDrop_and (topStrikeDrop_and (topStrikeDrop_and (topStrikeDrop_and (topStrikeDrop_and (topStrikeDrop_and (topStrikeDrop_and (topStrikeDrop_and (topStrikeDrop_and (topStrikeDrop_and (topStrikeDrop_and (topStrikeDrop_and (topStrikeDrop_and (topStrikeDrop_and (topStrikeDrop_and (by as_aux_lemma => kernel_rfl) (by as_aux_lemma => kernel_rfl)) (by as_aux_lemma => kernel_rfl)) (by as_aux_lemma => kernel_rfl)) (by as_aux_lemma => kernel_rfl)) (by as_aux_lemma => kernel_rfl)) (by as_aux_lemma => kernel_rfl)) (by as_aux_lemma => kernel_rfl)) (by as_aux_lemma => kernel_rfl)) (by as_aux_lemma => kernel_rfl)) (by as_aux_lemma => kernel_rfl)) (by as_aux_lemma => kernel_rfl)) (by as_aux_lemma => kernel_rfl)) (by as_aux_lemma => kernel_rfl)) (by as_aux_lemma => kernel_rfl)) (by as_aux_lemma => kernel_rfl)) (by as_aux_lemma => kernel_rfl)) (by as_aux_lemma => kernel_rfl)) (by as_aux_lemma => kernel_rfl)) (by as_aux_lemma => kernel_rfl)) (by as_aux_lemma => kernel_rfl)) (by as_aux_lemma => kernel_rfl)) (by as_aux_lemma => kernel_rfl)) (by as_aux_lemma => kernel_rfl)) (by as_aux_lemma => kernel_rfl)) (by as_aux_lemma => kernel_rfl)) (by as_aux_lemma => kernel_rfl)) (by as_aux_lemma => kernel_rfl)) (by as_aux_lemma => kernel_rfl)) (by as_aux_lemma => kernel_rfl)) (by as_aux_lemma => kernel_rfl)) (by as_aux_lemma => kernel_rfl)
theorem topStrikeDrop_q3 : Try.f4.isInstance Try.checked.prog Rows.topStrikeDropRow.origin Rows.topStrikeDropRow.targs := (of_decide_eq_true (by kernel_rfl))
theorem topStrikeDrop_q4 : Try.f4.isWrapper Try.checked.prog Rows.topStrikeDropRow.wrapper Rows.topStrikeDropRow.mainSum := (by unfold Func.isWrapper; first | (rw [if_pos (by decide +kernel)]; kernel_rfl) | (rw [if_neg (by decide +kernel)]; exact ⟨rfl, rfl⟩))
theorem topStrikeDrop_q5 : ∀ os : Os, os.Started → ∀ (H : Type) (enc : TypeId × Value → H), (∀ a b, enc a = enc b → a = b) →
    ReturnsInHanded Rows.topStrikeDropRow.assume Try.checked os 4 .any (Rows.topStrikeDropRow.pre enc Try.checked.prog Try.f4 (OpenSpec.ofChange Rows.topStrikeDropSpec)) (Rows.topStrikeDropSpec.post enc Try.checked.prog Try.f4 Rows.topStrikeDropRow.apart Rows.topStrikeDropRow.fresh Rows.topStrikeDropRow.handsOn Rows.topStrikeDropRow.again) := fun os started H enc _ => topStrikeDrop_lifted os started H enc
theorem topStrikeDrop_said : Rows.TopStrikeDropSaid :=
  OpenClaim.holds_of_wide 4 Try.f4 rfl rfl rfl rfl rfl rfl rfl ⟨rfl, rfl, rfl, rfl, rfl⟩ rfl rfl rfl rfl rfl topStrikeDrop_q1 Try.func4 topStrikeDrop_q2 topStrikeDrop_q3 topStrikeDrop_q4 topStrikeDrop_q5
end Go.Proofs.Ytgkoldcmbcbbpaa.Sy
namespace Go.Proofs.Ytgkoldcmbcbbpaa
theorem topStrikeDrop_holds : Rows.TopStrikeDropSaid := Sy.topStrikeDrop_said
#print axioms topStrikeDrop_holds
end Go.Proofs.Ytgkoldcmbcbbpaa
