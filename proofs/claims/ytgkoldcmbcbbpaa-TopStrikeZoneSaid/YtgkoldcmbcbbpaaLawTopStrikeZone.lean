/- Clocks that are put back by hours. -/
import Derived.Test.YtgkoldcmbcbbpaaRows
import Derived.Test.YtgkoldcmbcbbpaaEvTopStrikeZone
import Derived.Test.YtgkoldcmbcbbpaaSymO
import Derived.Test.YtgkoldcmbcbbpaaChecked
import Derived.ProofKit
import Derived.ShutString
import Derived.ChangeOld
set_option linter.unusedSimpArgs false
set_option linter.unusedVariables false
namespace Go.Proofs.Ytgkoldcmbcbbpaa.Sy
open Go.ChangeShapes Go.WideShapes Go.ChangeAt Go.RowKit

theorem topStrikeZone_own : ownKnob Try.prog.godebug = none := by kernel_rfl
theorem topStrikeZone_laid : laidOutB Try.prog = true := by kernel_rfl
set_option maxRecDepth 100000 in
set_option maxHeartbeats 1000000 in
theorem topStrikeZone_lifted (os : Os) (started : os.Started) (H : Type) (enc : TypeId × Value → H) :
    ReturnsInHanded {} Try.checked os 14 .any (Rows.topStrikeZoneSpec.pre6 enc Try.prog Try.f14 Rows.topStrikeZoneRow.domain false) (Rows.topStrikeZoneSpec.post enc Try.prog Try.f14 false true false false) := by
  refine returnsInHanded_of_change (C := Try.checked) topStrikeZone_own started (by kernel_rfl) Try.func14
    (ChangeSpec.witness6 (enc := enc) (C := Try.checked) false ⟨#[], #[.int .u16 0, .int .i8 0, .int .i8 0], []⟩ 8 (by kernel_rfl) (by kernel_rfl) (by kernel_rfl) (by kernel_rfl)) ?_
  intro W base args ds gs before hval0 hW hcnd _
  have hval : ∀ (j : Nat) t v, Try.f14.params[j]? = some t → args[j]? = some v → Value.okWide Try.prog W .any base t v := hval0
  have hW' := hW
  obtain ⟨p, q, hA0, hV, rfl, hfz, hnd⟩ := hW
  have hA : DataW.TrodAll enc Try.prog W 0 (fun _ => true) true Try.f14.params.toList args.toList ds p := hA0
  rw [Try.params14] at hA hval
  obtain ⟨v0, vs0, d0, ds0, p0, q0, hargs, rfl, rfl, h0, r0⟩ := trodAll_cons hA
  obtain ⟨v1, vs1, d1, ds1, p1, q1, rfl, rfl, rfl, h1, r1⟩ := trodAll_cons r0
  obtain ⟨v2, vs2, d2, ds2, p2, q2, rfl, rfl, rfl, h2, r2⟩ := trodAll_cons r1
  obtain ⟨rfl, rfl, rfl⟩ := trodAll_nil r2
  obtain rfl : args = #[v0, v1, v2] := by cases args; simp_all
  obtain ⟨rfl, rfl⟩ := trodVars_none hV
  have k0 := h0
  have lt0 : ∀ x ∈ p0, x.block < W.heap.size := by obtain ⟨m, hm⟩ := k0; exact DataW.trod_lt m _ _ _ hm
  have k1 := h1
  have lt1 : ∀ x ∈ p1, x.block < W.heap.size := by obtain ⟨m, hm⟩ := k1; exact DataW.trod_lt m _ _ _ hm
  have k2 := h2
  have lt2 : ∀ x ∈ p2, x.block < W.heap.size := by obtain ⟨m, hm⟩ := k2; exact DataW.trod_lt m _ _ _ hm
  obtain ⟨a0, rfl, _, _, w0⟩ := open_int Try.underlying46 (hval 0 46 v0 rfl rfl) h0
  obtain ⟨a1, rfl, _, _, w1⟩ := open_int Try.underlying77 (hval 1 77 v1 rfl rfl) h1
  obtain ⟨a2, rfl, _, _, w2⟩ := open_int Try.underlying77 (hval 2 77 v2 rfl rfl) h2
  clear hA0 hval0
  obtain ⟨fuel, hev⟩ := topStrikeZone_evx w0 w1 w2
  refine (FC.run (fc_top_TopStrikeZone hev) (fun k => .bool false) rfl (fun y hy => ?_)).mono fun e W' ⟨he, bel⟩ => ?_
  · cases hy
  subst he
  exact ⟨_, rfl, _, _, _, [], _, [], hW', trodAll_mk1 (shut_bool Try.underlying4 _), (trodAll_cons_mk (Below.trod topStrikeZone_laid (by kernel_rfl) (of_decide_eq_true (by kernel_rfl)) k0 bel lt0) (trodAll_cons_mk (Below.trod topStrikeZone_laid (by kernel_rfl) (of_decide_eq_true (by kernel_rfl)) k1 bel lt1) (trodAll_cons_mk (Below.trod topStrikeZone_laid (by kernel_rfl) (of_decide_eq_true (by kernel_rfl)) k2 bel lt2) trodAll_mk0))), rfl, bel.frame _, fun h => by cases h⟩

theorem topStrikeZone_q1 : Try.checked.prog.funcNamed Rows.topStrikeZoneRow.func = some 14 := by kernel_rfl
theorem topStrikeZone_and {a b : Bool} (ha : a = true) (hb : b = true) : (a && b) = true := by rw [ha, hb]; rfl
set_option maxHeartbeats 4000000 in
theorem topStrikeZone_q2 : joinedFacts Try.checked.prog 14 Try.f14 Rows.topStrikeZoneSpec Rows.topStrikeZoneRow = true := by
  unfold joinedFacts
  exact topStrikeZone_and (topStrikeZone_and (topStrikeZone_and (topStrikeZone_and (topStrikeZone_and (topStrikeZone_and (topStrikeZone_and (topStrikeZone_and (topStrikeZone_and (topStrikeZone_and (topStrikeZone_and (topStrikeZone_and (topStrikeZone_and (topStrikeZone_and (topStrikeZone_and (topStrikeZone_and (topStrikeZone_and (topStrikeZone_and (topStrikeZone_and (topStrikeZone_and (topStrikeZone_and (topStrikeZone_and (topStrikeZone_and (topStrikeZone_and (topStrikeZone_and (topStrikeZone_and (topStrikeZone_and (topStrikeZone_and (topStrikeZone_and (topStrikeZone_and (topStrikeZone_and (by as_aux_lemma => kernel_rfl) (by as_aux_lemma => kernel_rfl)) (by as_aux_lemma => kernel_rfl)) (by as_aux_lemma => kernel_rfl)) (by as_aux_lemma => kernel_rfl)) (by as_aux_lemma => kernel_rfl)) (by as_aux_lemma => kernel_rfl)) (by as_aux_lemma => kernel_rfl)) (by as_aux_lemma => kernel_rfl)) (by as_aux_lemma => kernel_rfl)) (by as_aux_lemma => kernel_rfl)) (by as_aux_lemma => kernel_rfl)) (by as_aux_lemma => kernel_rfl)) (by as_aux_lemma => kernel_rfl)) (by as_aux_lemma => kernel_rfl)) (by as_aux_lemma => kernel_rfl)) (by as_aux_lemma => kernel_rfl)) (by as_aux_lemma => kernel_rfl)) (by as_aux_lemma => kernel_rfl)) (by as_aux_lemma => kernel_rfl)) (by as_aux_lemma => kernel_rfl)) (by as_aux_lemma => kernel_rfl)) (by as_aux_lemma => kernel_rfl)) (by as_aux_lemma => kernel_rfl)) (by as_aux_lemma => kernel_rfl)) (by as_aux_lemma => kernel_rfl)) (by as_aux_lemma => kernel_rfl)) (by as_aux_lemma => kernel_rfl)) (by as_aux_lemma => kernel_rfl)) (by as_aux_lemma => kernel_rfl)) (by as_aux_lemma => kernel_rfl)) (by as_aux_lemma => kernel_rfl)
theorem topStrikeZone_q3 : Try.f14.isInstance Try.checked.prog Rows.topStrikeZoneRow.origin Rows.topStrikeZoneRow.targs := (of_decide_eq_true (by kernel_rfl))
theorem topStrikeZone_q4 : Try.f14.isWrapper Try.checked.prog Rows.topStrikeZoneRow.wrapper Rows.topStrikeZoneRow.mainSum := (by unfold Func.isWrapper; first | (rw [if_pos (by decide +kernel)]; kernel_rfl) | (rw [if_neg (by decide +kernel)]; exact ⟨rfl, rfl⟩))
theorem topStrikeZone_q5 : ∀ os : Os, os.Started → ∀ (H : Type) (enc : TypeId × Value → H), (∀ a b, enc a = enc b → a = b) →
    ReturnsInHanded Rows.topStrikeZoneRow.assume Try.checked os 14 .any (Rows.topStrikeZoneRow.pre enc Try.checked.prog Try.f14 (OpenSpec.ofChange Rows.topStrikeZoneSpec)) (Rows.topStrikeZoneSpec.post enc Try.checked.prog Try.f14 Rows.topStrikeZoneRow.apart Rows.topStrikeZoneRow.fresh Rows.topStrikeZoneRow.handsOn Rows.topStrikeZoneRow.again) := fun os started H enc _ => topStrikeZone_lifted os started H enc
theorem topStrikeZone_said : Rows.TopStrikeZoneSaid :=
  OpenClaim.holds_of_wide 14 Try.f14 rfl rfl rfl rfl rfl rfl rfl ⟨rfl, rfl, rfl, rfl, rfl⟩ rfl rfl rfl rfl rfl topStrikeZone_q1 Try.func14 topStrikeZone_q2 topStrikeZone_q3 topStrikeZone_q4 topStrikeZone_q5
end Go.Proofs.Ytgkoldcmbcbbpaa.Sy
namespace Go.Proofs.Ytgkoldcmbcbbpaa
theorem topStrikeZone_holds : Rows.TopStrikeZoneSaid := Sy.topStrikeZone_said
#print axioms topStrikeZone_holds
end Go.Proofs.Ytgkoldcmbcbbpaa
