/- Clocks that are put back by lost impulses. -/
import Derived.Test.YtgkoldcmbcbbpaaRows
import Derived.Test.YtgkoldcmbcbbpaaEvTopZonePulse
import Derived.Test.YtgkoldcmbcbbpaaSymO
import Derived.Test.YtgkoldcmbcbbpaaChecked
import Derived.ProofKit
import Derived.ShutString
import Derived.ChangeOld
set_option linter.unusedSimpArgs false
set_option linter.unusedVariables false
namespace Go.Proofs.Ytgkoldcmbcbbpaa.Sy
open Go.ChangeShapes Go.WideShapes Go.ChangeAt Go.RowKit

theorem topZonePulse_op5 : Opens Try.prog 5 1 (fun x : Int => [D.v (.int .u8 x)]) (fun x => (Lit.int .u8 x).wf = true) := opens_int Try.underlying5 (by kernel_rfl)
theorem topZonePulse_op45 : Opens Try.prog 45 2 (fun x : Int × Int => [D.v (.int .u8 x.1), D.v (.int .u8 x.2)]) (fun x => (Lit.int .u8 x.1).wf = true ∧ (Lit.int .u8 x.2).wf = true) := (opens_array (m := 2) (s := 1) Try.underlying45 (by kernel_rfl) (by kernel_rfl) (parts_cons topZonePulse_op5 (parts_cons topZonePulse_op5 parts_nil))).map (fun p => (p.1, p.2.1)) (fun _ => rfl) (fun p h => ⟨h.1, h.2.1⟩)
theorem topZonePulse_own : ownKnob Try.prog.godebug = none := by kernel_rfl
theorem topZonePulse_laid : laidOutB Try.prog = true := by kernel_rfl
set_option maxRecDepth 100000 in
set_option maxHeartbeats 1000000 in
theorem topZonePulse_lifted (os : Os) (started : os.Started) (H : Type) (enc : TypeId × Value → H) :
    ReturnsInHanded {} Try.checked os 13 .any (Rows.topZonePulseSpec.pre6 enc Try.prog Try.f13 Rows.topZonePulseRow.domain false) (Rows.topZonePulseSpec.post enc Try.prog Try.f13 false true false false) := by
  refine returnsInHanded_of_change (C := Try.checked) topZonePulse_own started (by kernel_rfl) Try.func13
    (ChangeSpec.witness6 (enc := enc) (C := Try.checked) false ⟨#[], #[.int .u16 0, .int .u8 0, .agg #[.int .u8 0, .int .u8 0]], []⟩ 8 (by kernel_rfl) (by kernel_rfl) (by kernel_rfl) (by kernel_rfl)) ?_
  intro W base args ds gs before hval0 hW hcnd _
  have hval : ∀ (j : Nat) t v, Try.f13.params[j]? = some t → args[j]? = some v → Value.okWide Try.prog W .any base t v := hval0
  have hW' := hW
  obtain ⟨p, q, hA0, hV, rfl, hfz, hnd⟩ := hW
  have hA : DataW.TrodAll enc Try.prog W 0 (fun _ => true) true Try.f13.params.toList args.toList ds p := hA0
  rw [Try.params13] at hA hval
  obtain ⟨v0, vs0, d0, ds0, p0, q0, hargs, rfl, rfl, h0, r0⟩ := trodAll_cons hA
  obtain ⟨v1, vs1, d1, ds1, p1, q1, rfl, rfl, rfl, h1, r1⟩ := trodAll_cons r0
  obtain ⟨v2, vs2, d2, ds2, p2, q2, rfl, rfl, rfl, h2, r2⟩ := trodAll_cons r1
  obtain ⟨rfl, rfl, rfl⟩ := trodAll_nil r2
  obtain rfl : args = #[v0, v1, v2] := by cases args; simp_all
  obtain ⟨rfl, rfl⟩ := trodVars_none hV
  have k0 := h0
  have lt0 : ∀ x ∈ p0, x.block < W.heap.size := by obtain ⟨m, hm⟩ := k0; exact DataW.trod_lt m _ _ _ hm
  have k1 := h1
  have lt1 : ∀ x ∈ p1, x.block < W.heap.size := by obtain ⟨m, hm⟩ := k1; exact DataW.trod_lt m _ _ _ hm
  have k2 := h2
  have lt2 : ∀ x ∈ p2, x.block < W.heap.size := by obtain ⟨m, hm⟩ := k2; exact DataW.trod_lt m _ _ _ hm
  obtain ⟨a0, rfl, _, _, w0⟩ := open_int Try.underlying46 (hval 0 46 v0 rfl rfl) h0
  obtain ⟨a1, rfl, _, _, w1⟩ := open_int Try.underlying5 (hval 1 5 v1 rfl rfl) h1
  obtain ⟨a2, cs2, w2, rfl, ok2⟩ := arg_agg (agg_array Try.underlying45 (hval 2 45 v2 rfl rfl)) topZonePulse_op45 h2
  obtain ⟨u2_0, cs2_0, rfl, e2_0, ok2_0⟩ := okL_cons ok2
  cases e2_0
  obtain ⟨u2_1, cs2_1, rfl, e2_1, ok2_1⟩ := okL_cons ok2_0
  cases e2_1
  cases okL_nil ok2_1
  clear hA0 hval0
  obtain ⟨fuel, hev⟩ := topZonePulse_evx w0 w1 w2
  refine (FC.run (fc_top_TopZonePulse hev) (fun k => .bool false) rfl (fun y hy => ?_)).mono fun e W' ⟨he, bel⟩ => ?_
  · cases hy
  subst he
  exact ⟨_, rfl, _, _, _, [], _, [], hW', trodAll_mk1 (shut_bool Try.underlying4 _), (trodAll_cons_mk (Below.trod topZonePulse_laid (by kernel_rfl) (of_decide_eq_true (by kernel_rfl)) k0 bel lt0) (trodAll_cons_mk (Below.trod topZonePulse_laid (by kernel_rfl) (of_decide_eq_true (by kernel_rfl)) k1 bel lt1) (trodAll_cons_mk (Below.trod topZonePulse_laid (by kernel_rfl) (of_decide_eq_true (by kernel_rfl)) k2 bel lt2) trodAll_mk0))), rfl, bel.frame _, fun h => by cases h⟩

theorem topZonePulse_q1 : Try.checked.prog.funcNamed Rows.topZonePulseRow.func = some 13 := by kernel_rfl
theorem topZonePulse_and {a b : Bool} (ha : a = true) (hb : b = true) : (a && b) = true := by rw [ha, hb]; rfl
set_option maxHeartbeats 4000000 in
theorem topZonePulse_q2 : joinedFacts Try.checked.prog 13 Try.f13 Rows.topZonePulseSpec Rows.topZonePulseRow = true := by
  unfold joinedFacts
  exact topZonePulse_and (topZonePulse_and (topZonePulse_and (topZonePulse_and (topZonePulse_and (topZonePulse_and (topZonePulse_and (topZonePulse_and (topZonePulse_and (topZonePulse_and (topZonePulse_and (topZonePulse_and (topZonePulse_and (topZonePulse_and (topZonePulse_and (topZonePulse_and (topZonePulse_and (topZonePulse_and (topZonePulse_and (topZonePulse_and (topZonePulse_and (topZonePulse_and (topZonePulse_and (topZonePulse_and (topZonePulse_and (topZonePulse_and (topZonePulse_and (topZonePulse_and (topZonePulse_and (topZonePulse_and (topZonePulse_and (by as_aux_lemma => kernel_rfl) (by as_aux_lemma => kernel_rfl)) (by as_aux_lemma => kernel_rfl)) (by as_aux_lemma => kernel_rfl)) (by as_aux_lemma => kernel_rfl)) (by as_aux_lemma => kernel_rfl)) (by as_aux_lemma => kernel_rfl)) (by as_aux_lemma => kernel_rfl)) (by as_aux_lemma => kernel_rfl)) (by as_aux_lemma => kernel_rfl)) (by as_aux_lemma => kernel_rfl)) (by as_aux_lemma => kernel_rfl)) (by as_aux_lemma => kernel_rfl)) (by as_aux_lemma => kernel_rfl)) (by as_aux_lemma => kernel_rfl)) (by as_aux_lemma => kernel_rfl)) (by as_aux_lemma => kernel_rfl)) (by as_aux_lemma => kernel_rfl)) (by as_aux_lemma => kernel_rfl)) (by as_aux_lemma => kernel_rfl)) (by as_aux_lemma => kernel_rfl)) (by as_aux_lemma => kernel_rfl)) (by as_aux_lemma => kernel_rfl)) (by as_aux_lemma => kernel_rfl)) (by as_aux_lemma => kernel_rfl)) (by as_aux_lemma => kernel_rfl)) (by as_aux_lemma => kernel_rfl)) (by as_aux_lemma => kernel_rfl)) (by as_aux_lemma => kernel_rfl)) (by as_aux_lemma => kernel_rfl)) (by as_aux_lemma => kernel_rfl)) (by as_aux_lemma => kernel_rfl)
theorem topZonePulse_q3 : Try.f13.isInstance Try.checked.prog Rows.topZonePulseRow.origin Rows.topZonePulseRow.targs := (of_decide_eq_true (by kernel_rfl))
theorem topZonePulse_q4 : Try.f13.isWrapper Try.checked.prog Rows.topZonePulseRow.wrapper Rows.topZonePulseRow.mainSum := (by unfold Func.isWrapper; first | (rw [if_pos (by decide +kernel)]; kernel_rfl) | (rw [if_neg (by decide +kernel)]; exact ⟨rfl, rfl⟩))
theorem topZonePulse_q5 : ∀ os : Os, os.Started → ∀ (H : Type) (enc : TypeId × Value → H), (∀ a b, enc a = enc b → a = b) →
    ReturnsInHanded Rows.topZonePulseRow.assume Try.checked os 13 .any (Rows.topZonePulseRow.pre enc Try.checked.prog Try.f13 (OpenSpec.ofChange Rows.topZonePulseSpec)) (Rows.topZonePulseSpec.post enc Try.checked.prog Try.f13 Rows.topZonePulseRow.apart Rows.topZonePulseRow.fresh Rows.topZonePulseRow.handsOn Rows.topZonePulseRow.again) := fun os started H enc _ => topZonePulse_lifted os started H enc
theorem topZonePulse_said : Rows.TopZonePulseSaid :=
  OpenClaim.holds_of_wide 13 Try.f13 rfl rfl rfl rfl rfl rfl rfl ⟨rfl, rfl, rfl, rfl, rfl⟩ rfl rfl rfl rfl rfl topZonePulse_q1 Try.func13 topZonePulse_q2 topZonePulse_q3 topZonePulse_q4 topZonePulse_q5
end Go.Proofs.Ytgkoldcmbcbbpaa.Sy
namespace Go.Proofs.Ytgkoldcmbcbbpaa
theorem topZonePulse_holds : Rows.TopZonePulseSaid := Sy.topZonePulse_said
#print axioms topZonePulse_holds
end Go.Proofs.Ytgkoldcmbcbbpaa
