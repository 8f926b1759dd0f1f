/- The hands of a clock and its strike agree. -/
import Derived.Test.YtmgcinejodpopaaRows
import Derived.Test.YtmgcinejodpopaaEvTopBookStrike
import Derived.Test.YtmgcinejodpopaaSymO
import Derived.Test.YtmgcinejodpopaaChecked
import Derived.ProofKit
import Derived.ShutString
import Derived.ChangeOld
set_option linter.unusedSimpArgs false
set_option linter.unusedVariables false
namespace Go.Proofs.Ytmgcinejodpopaa.Sy
open Go.ChangeShapes Go.WideShapes Go.ChangeAt Go.RowKit

theorem topBookStrike_own : ownKnob Try.prog.godebug = none := by kernel_rfl
theorem topBookStrike_laid : laidOutB Try.prog = true := by kernel_rfl
set_option maxRecDepth 100000 in
set_option maxHeartbeats 1000000 in
theorem topBookStrike_lifted (os : Os) (started : os.Started) (H : Type) (enc : TypeId × Value → H) :
    ReturnsInHanded {} Try.checked os 9 .any (Rows.topBookStrikeSpec.pre6 enc Try.prog Try.f9 Rows.topBookStrikeRow.domain false) (Rows.topBookStrikeSpec.post enc Try.prog Try.f9 false true false false) := by
  refine returnsInHanded_of_change (C := Try.checked) topBookStrike_own started (by kernel_rfl) Try.func9
    (ChangeSpec.witness6 (enc := enc) (C := Try.checked) false ⟨#[], #[.int .u16 0, .int .u8 0], []⟩ 8 (by kernel_rfl) (by kernel_rfl) (by kernel_rfl) (by kernel_rfl)) ?_
  intro W base args ds gs before hval0 hW hcnd _
  have hval : ∀ (j : Nat) t v, Try.f9.params[j]? = some t → args[j]? = some v → Value.okWide Try.prog W .any base t v := hval0
  have hW' := hW
  obtain ⟨p, q, hA0, hV, rfl, hfz, hnd⟩ := hW
  have hA : DataW.TrodAll enc Try.prog W 0 (fun _ => true) true Try.f9.params.toList args.toList ds p := hA0
  rw [Try.params9] at hA hval
  obtain ⟨v0, vs0, d0, ds0, p0, q0, hargs, rfl, rfl, h0, r0⟩ := trodAll_cons hA
  obtain ⟨v1, vs1, d1, ds1, p1, q1, rfl, rfl, rfl, h1, r1⟩ := trodAll_cons r0
  obtain ⟨rfl, rfl, rfl⟩ := trodAll_nil r1
  obtain rfl : args = #[v0, v1] := by cases args; simp_all
  obtain ⟨rfl, rfl⟩ := trodVars_none hV
  have k0 := h0
  have lt0 : ∀ x ∈ p0, x.block < W.heap.size := by obtain ⟨m, hm⟩ := k0; exact DataW.trod_lt m _ _ _ hm
  have k1 := h1
  have lt1 : ∀ x ∈ p1, x.block < W.heap.size := by obtain ⟨m, hm⟩ := k1; exact DataW.trod_lt m _ _ _ hm
  obtain ⟨a0, rfl, _, _, w0⟩ := open_int Try.underlying22 (hval 0 22 v0 rfl rfl) h0
  obtain ⟨a1, rfl, _, _, w1⟩ := open_int Try.underlying5 (hval 1 5 v1 rfl rfl) h1
  clear hA0 hval0
  obtain ⟨fuel, hev⟩ := topBookStrike_evx w0 w1
  refine (FC.run (fc_top_TopBookStrike hev) (fun k => .bool false) rfl (fun y hy => ?_)).mono fun e W' ⟨he, bel⟩ => ?_
  · cases hy
  subst he
  exact ⟨_, rfl, _, _, _, [], _, [], hW', trodAll_mk1 (shut_bool Try.underlying4 _), (trodAll_cons_mk (Below.trod topBookStrike_laid (by kernel_rfl) (of_decide_eq_true (by kernel_rfl)) k0 bel lt0) (trodAll_cons_mk (Below.trod topBookStrike_laid (by kernel_rfl) (of_decide_eq_true (by kernel_rfl)) k1 bel lt1) trodAll_mk0)), rfl, bel.frame _, fun h => by cases h⟩

theorem topBookStrike_q1 : Try.checked.prog.funcNamed Rows.topBookStrikeRow.func = some 9 := by kernel_rfl
theorem topBookStrike_and {a b : Bool} (ha : a = true) (hb : b = true) : (a && b) = true := by rw [ha, hb]; rfl
set_option maxHeartbeats 4000000 in
theorem topBookStrike_q2 : joinedFacts Try.checked.prog 9 Try.f9 Rows.topBookStrikeSpec Rows.topBookStrikeRow = true := by
  unfold joinedFacts
  exact topBookStrike_and (topBookStrike_and (topBookStrike_and (topBookStrike_and (topBookStrike_and (topBookStrike_and (topBookStrike_and (topBookStrike_and (topBookStrike_and (topBookStrike_and (topBookStrike_and (topBookStrike_and (topBookStrike_and (topBookStrike_and (topBookStrike_and (topBookStrike_and (topBookStrike_and (topBookStrike_and (topBookStrike_and (topBookStrike_and (topBookStrike_and (topBookStrike_and (topBookStrike_and (topBookStrike_and (topBookStrike_and (topBookStrike_and (topBookStrike_and (topBookStrike_and (topBookStrike_and (topBookStrike_and (topBookStrike_and (by as_aux_lemma => kernel_rfl) (by as_aux_lemma => kernel_rfl)) (by as_aux_lemma => kernel_rfl)) (by as_aux_lemma => kernel_rfl)) (by as_aux_lemma => kernel_rfl)) (by as_aux_lemma => kernel_rfl)) (by as_aux_lemma => kernel_rfl)) (by as_aux_lemma => kernel_rfl)) (by as_aux_lemma => kernel_rfl)) (by as_aux_lemma => kernel_rfl)) (by as_aux_lemma => kernel_rfl)) (by as_aux_lemma => kernel_rfl)) (by as_aux_lemma => kernel_rfl)) (by as_aux_lemma => kernel_rfl)) (by as_aux_lemma => kernel_rfl)) (by as_aux_lemma => kernel_rfl)) (by as_aux_lemma => kernel_rfl)) (by as_aux_lemma => kernel_rfl)) (by as_aux_lemma => kernel_rfl)) (by as_aux_lemma => kernel_rfl)) (by as_aux_lemma => kernel_rfl)) (by as_aux_lemma => kernel_rfl)) (by as_aux_lemma => kernel_rfl)) (by as_aux_lemma => kernel_rfl)) (by as_aux_lemma => kernel_rfl)) (by as_aux_lemma => kernel_rfl)) (by as_aux_lemma => kernel_rfl)) (by as_aux_lemma => kernel_rfl)) (by as_aux_lemma => kernel_rfl)) (by as_aux_lemma => kernel_rfl)) (by as_aux_lemma => kernel_rfl)) (by as_aux_lemma => kernel_rfl)
theorem topBookStrike_q3 : Try.f9.isInstance Try.checked.prog Rows.topBookStrikeRow.origin Rows.topBookStrikeRow.targs := (of_decide_eq_true (by kernel_rfl))
theorem topBookStrike_q4 : Try.f9.isWrapper Try.checked.prog Rows.topBookStrikeRow.wrapper Rows.topBookStrikeRow.mainSum := (by unfold Func.isWrapper; first | (rw [if_pos (by decide +kernel)]; kernel_rfl) | (rw [if_neg (by decide +kernel)]; exact ⟨rfl, rfl⟩))
theorem topBookStrike_q5 : ∀ os : Os, os.Started → ∀ (H : Type) (enc : TypeId × Value → H), (∀ a b, enc a = enc b → a = b) →
    ReturnsInHanded Rows.topBookStrikeRow.assume Try.checked os 9 .any (Rows.topBookStrikeRow.pre enc Try.checked.prog Try.f9 (OpenSpec.ofChange Rows.topBookStrikeSpec)) (Rows.topBookStrikeSpec.post enc Try.checked.prog Try.f9 Rows.topBookStrikeRow.apart Rows.topBookStrikeRow.fresh Rows.topBookStrikeRow.handsOn Rows.topBookStrikeRow.again) := fun os started H enc _ => topBookStrike_lifted os started H enc
theorem topBookStrike_said : Rows.TopBookStrikeSaid :=
  OpenClaim.holds_of_wide 9 Try.f9 rfl rfl rfl rfl rfl rfl rfl ⟨rfl, rfl, rfl, rfl, rfl⟩ rfl rfl rfl rfl rfl topBookStrike_q1 Try.func9 topBookStrike_q2 topBookStrike_q3 topBookStrike_q4 topBookStrike_q5
end Go.Proofs.Ytmgcinejodpopaa.Sy
namespace Go.Proofs.Ytmgcinejodpopaa
theorem topBookStrike_holds : Rows.TopBookStrikeSaid := Sy.topBookStrike_said
#print axioms topBookStrike_holds
end Go.Proofs.Ytmgcinejodpopaa
