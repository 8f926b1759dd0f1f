/- The town's clock in its book. -/
import Derived.Test.YtmgcinejodpopaaRows
import Derived.Test.YtmgcinejodpopaaEvTopZoneBook
import Derived.Test.YtmgcinejodpopaaSymO
import Derived.Test.YtmgcinejodpopaaChecked
import Derived.ProofKit
import Derived.ShutString
import Derived.ChangeOld
set_option linter.unusedSimpArgs false
set_option linter.unusedVariables false
namespace Go.Proofs.Ytmgcinejodpopaa.Sy
open Go.ChangeShapes Go.WideShapes Go.ChangeAt Go.RowKit

theorem topZoneBook_op22 : Opens Try.prog 22 1 (fun x : Int => [D.v (.int .u16 x)]) (fun x => (Lit.int .u16 x).wf = true) := opens_int Try.underlying22 (by kernel_rfl)
theorem topZoneBook_op132 : Opens Try.prog 132 2 (fun x : Int × Int => [D.v (.int .u16 x.1), D.v (.int .u16 x.2)]) (fun x => (Lit.int .u16 x.1).wf = true ∧ (Lit.int .u16 x.2).wf = true) := (opens_array (m := 2) (s := 1) Try.underlying132 (by kernel_rfl) (by kernel_rfl) (parts_cons topZoneBook_op22 (parts_cons topZoneBook_op22 parts_nil))).map (fun p => (p.1, p.2.1)) (fun _ => rfl) (fun p h => ⟨h.1, h.2.1⟩)
theorem topZoneBook_op130 : Opens Try.prog 130 1 (fun x : (List (Int × Int)) => [D.s 2 (List.map (fun el132 : Int × Int => [D.v (.int .u16 el132.1), D.v (.int .u16 el132.2)]) x)]) (fun x => ((x).length ≤ maxLen ∧ ∀ el132 ∈ x, (Lit.int .u16 el132.1).wf = true ∧ (Lit.int .u16 el132.2).wf = true)) := opens_slice Try.underlying130 (by kernel_rfl) (by decide) topZoneBook_op132
theorem topZoneBook_own : ownKnob Try.prog.godebug = none := by kernel_rfl
theorem topZoneBook_laid : laidOutB Try.prog = true := by kernel_rfl
set_option maxRecDepth 100000 in
set_option maxHeartbeats 1000000 in
theorem topZoneBook_lifted (os : Os) (started : os.Started) (H : Type) (enc : TypeId × Value → H) :
    ReturnsInHanded {} Try.checked os 12 .any (Rows.topZoneBookSpec.pre6 enc Try.prog Try.f12 Rows.topZoneBookRow.domain false) (Rows.topZoneBookSpec.post enc Try.prog Try.f12 false true false false) := by
  refine returnsInHanded_of_change (C := Try.checked) topZoneBook_own started (by kernel_rfl) Try.func12
    (ChangeSpec.witness6 (enc := enc) (C := Try.checked) false ⟨#[], #[.int .i16 0, .slice none 0 0, .int .u32 0], []⟩ 8 (by kernel_rfl) (by kernel_rfl) (by kernel_rfl) (by kernel_rfl)) ?_
  intro W base args ds gs before hval0 hW hcnd _
  have hval : ∀ (j : Nat) t v, Try.f12.params[j]? = some t → args[j]? = some v → Value.okWide Try.prog W .any base t v := hval0
  have hW' := hW
  obtain ⟨p, q, hA0, hV, rfl, hfz, hnd⟩ := hW
  have hA : DataW.TrodAll enc Try.prog W 0 (fun _ => true) true Try.f12.params.toList args.toList ds p := hA0
  rw [Try.params12] at hA hval
  obtain ⟨v0, vs0, d0, ds0, p0, q0, hargs, rfl, rfl, h0, r0⟩ := trodAll_cons hA
  obtain ⟨v1, vs1, d1, ds1, p1, q1, rfl, rfl, rfl, h1, r1⟩ := trodAll_cons r0
  obtain ⟨v2, vs2, d2, ds2, p2, q2, rfl, rfl, rfl, h2, r2⟩ := trodAll_cons r1
  obtain ⟨rfl, rfl, rfl⟩ := trodAll_nil r2
  obtain rfl : args = #[v0, v1, v2] := by cases args; simp_all
  obtain ⟨rfl, rfl⟩ := trodVars_none hV
  have k0 := h0
  have lt0 : ∀ x ∈ p0, x.block < W.heap.size := by obtain ⟨m, hm⟩ := k0; exact DataW.trod_lt m _ _ _ hm
  have k1 := h1
  have lt1 : ∀ x ∈ p1, x.block < W.heap.size := by obtain ⟨m, hm⟩ := k1; exact DataW.trod_lt m _ _ _ hm
  have k2 := h2
  have lt2 : ∀ x ∈ p2, x.block < W.heap.size := by obtain ⟨m, hm⟩ := k2; exact DataW.trod_lt m _ _ _ hm
  obtain ⟨a0, rfl, _, _, w0⟩ := open_int Try.underlying150 (hval 0 150 v0 rfl rfl) h0
  obtain ⟨a1, w1, rd1⟩ := arg_slice Try.underlying130 topZoneBook_op130 (hval 1 130 v1 rfl rfl) h1
  obtain ⟨b1, n1, c1, rfl⟩ := reads_slice rd1
  obtain ⟨a2, rfl, _, _, w2⟩ := open_int Try.underlying131 (hval 2 131 v2 rfl rfl) h2
  clear hA0 hval0
  obtain ⟨fuel, hev⟩ := topZoneBook_evx w0 w1 w2
  refine (FC.run (fc_top_TopZoneBook hev) (fun k => if k = 0 then (.slice b1 n1 c1) else .bool false) rfl (fun y hy => ?_)).mono fun e W' ⟨he, bel⟩ => ?_
  · simp only [List.mem_cons, List.not_mem_nil, or_false] at hy
    rcases hy with rfl
    · exact rd1
  subst he
  exact ⟨_, rfl, _, _, _, [], _, [], hW', trodAll_mk1 (shut_bool Try.underlying4 _), (trodAll_cons_mk (Below.trod topZoneBook_laid (by kernel_rfl) (of_decide_eq_true (by kernel_rfl)) k0 bel lt0) (trodAll_cons_mk (Below.trod topZoneBook_laid (by kernel_rfl) (of_decide_eq_true (by kernel_rfl)) k1 bel lt1) (trodAll_cons_mk (Below.trod topZoneBook_laid (by kernel_rfl) (of_decide_eq_true (by kernel_rfl)) k2 bel lt2) trodAll_mk0))), rfl, bel.frame _, fun h => by cases h⟩

theorem topZoneBook_q1 : Try.checked.prog.funcNamed Rows.topZoneBookRow.func = some 12 := by kernel_rfl
theorem topZoneBook_and {a b : Bool} (ha : a = true) (hb : b = true) : (a && b) = true := by rw [ha, hb]; rfl
set_option maxHeartbeats 4000000 in
theorem topZoneBook_q2 : joinedFacts Try.checked.prog 12 Try.f12 Rows.topZoneBookSpec Rows.topZoneBookRow = true := by
  unfold joinedFacts
  exact topZoneBook_and (topZoneBook_and (topZoneBook_and (topZoneBook_and (topZoneBook_and (topZoneBook_and (topZoneBook_and (topZoneBook_and (topZoneBook_and (topZoneBook_and (topZoneBook_and (topZoneBook_and (topZoneBook_and (topZoneBook_and (topZoneBook_and (topZoneBook_and (topZoneBook_and (topZoneBook_and (topZoneBook_and (topZoneBook_and (topZoneBook_and (topZoneBook_and (topZoneBook_and (topZoneBook_and (topZoneBook_and (topZoneBook_and (topZoneBook_and (topZoneBook_and (topZoneBook_and (topZoneBook_and (topZoneBook_and (by as_aux_lemma => kernel_rfl) (by as_aux_lemma => kernel_rfl)) (by as_aux_lemma => kernel_rfl)) (by as_aux_lemma => kernel_rfl)) (by as_aux_lemma => kernel_rfl)) (by as_aux_lemma => kernel_rfl)) (by as_aux_lemma => kernel_rfl)) (by as_aux_lemma => kernel_rfl)) (by as_aux_lemma => kernel_rfl)) (by as_aux_lemma => kernel_rfl)) (by as_aux_lemma => kernel_rfl)) (by as_aux_lemma => kernel_rfl)) (by as_aux_lemma => kernel_rfl)) (by as_aux_lemma => kernel_rfl)) (by as_aux_lemma => kernel_rfl)) (by as_aux_lemma => kernel_rfl)) (by as_aux_lemma => kernel_rfl)) (by as_aux_lemma => kernel_rfl)) (by as_aux_lemma => kernel_rfl)) (by as_aux_lemma => kernel_rfl)) (by as_aux_lemma => kernel_rfl)) (by as_aux_lemma => kernel_rfl)) (by as_aux_lemma => kernel_rfl)) (by as_aux_lemma => kernel_rfl)) (by as_aux_lemma => kernel_rfl)) (by as_aux_lemma => kernel_rfl)) (by as_aux_lemma => kernel_rfl)) (by as_aux_lemma => kernel_rfl)) (by as_aux_lemma => kernel_rfl)) (by as_aux_lemma => kernel_rfl)) (by as_aux_lemma => kernel_rfl)) (by as_aux_lemma => kernel_rfl)
theorem topZoneBook_q3 : Try.f12.isInstance Try.checked.prog Rows.topZoneBookRow.origin Rows.topZoneBookRow.targs := (of_decide_eq_true (by kernel_rfl))
theorem topZoneBook_q4 : Try.f12.isWrapper Try.checked.prog Rows.topZoneBookRow.wrapper Rows.topZoneBookRow.mainSum := (by unfold Func.isWrapper; first | (rw [if_pos (by decide +kernel)]; kernel_rfl) | (rw [if_neg (by decide +kernel)]; exact ⟨rfl, rfl⟩))
theorem topZoneBook_q5 : ∀ os : Os, os.Started → ∀ (H : Type) (enc : TypeId × Value → H), (∀ a b, enc a = enc b → a = b) →
    ReturnsInHanded Rows.topZoneBookRow.assume Try.checked os 12 .any (Rows.topZoneBookRow.pre enc Try.checked.prog Try.f12 (OpenSpec.ofChange Rows.topZoneBookSpec)) (Rows.topZoneBookSpec.post enc Try.checked.prog Try.f12 Rows.topZoneBookRow.apart Rows.topZoneBookRow.fresh Rows.topZoneBookRow.handsOn Rows.topZoneBookRow.again) := fun os started H enc _ => topZoneBook_lifted os started H enc
theorem topZoneBook_said : Rows.TopZoneBookSaid :=
  OpenClaim.holds_of_wide 12 Try.f12 rfl rfl rfl rfl rfl rfl rfl ⟨rfl, rfl, rfl, rfl, rfl⟩ rfl rfl rfl rfl rfl topZoneBook_q1 Try.func12 topZoneBook_q2 topZoneBook_q3 topZoneBook_q4 topZoneBook_q5
end Go.Proofs.Ytmgcinejodpopaa.Sy
namespace Go.Proofs.Ytmgcinejodpopaa
theorem topZoneBook_holds : Rows.TopZoneBookSaid := Sy.topZoneBook_said
#print axioms topZoneBook_holds
end Go.Proofs.Ytmgcinejodpopaa
