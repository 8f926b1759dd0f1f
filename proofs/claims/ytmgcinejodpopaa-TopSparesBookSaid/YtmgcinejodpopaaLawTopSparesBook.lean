/- Spares on cards. -/
import Derived.Test.YtmgcinejodpopaaRows
import Derived.Test.YtmgcinejodpopaaEvTopSparesBook
import Derived.Test.YtmgcinejodpopaaSymO
import Derived.Test.YtmgcinejodpopaaChecked
import Derived.ProofKit
import Derived.ShutString
import Derived.ChangeOld
set_option linter.unusedSimpArgs false
set_option linter.unusedVariables false
namespace Go.Proofs.Ytmgcinejodpopaa.Sy
open Go.ChangeShapes Go.WideShapes Go.ChangeAt Go.RowKit

theorem topSparesBook_op5 : Opens Try.prog 5 1 (fun x : Int => [D.v (.int .u8 x)]) (fun x => (Lit.int .u8 x).wf = true) := opens_int Try.underlying5 (by kernel_rfl)
theorem topSparesBook_op42 : Opens Try.prog 42 3 (fun x : Int × Int × Int => [D.v (.int .u8 x.1), D.v (.int .u8 x.2.1), D.v (.int .u8 x.2.2)]) (fun x => (Lit.int .u8 x.1).wf = true ∧ (Lit.int .u8 x.2.1).wf = true ∧ (Lit.int .u8 x.2.2).wf = true) := (opens_array (m := 3) (s := 1) Try.underlying42 (by kernel_rfl) (by kernel_rfl) (parts_cons topSparesBook_op5 (parts_cons topSparesBook_op5 (parts_cons topSparesBook_op5 parts_nil)))).map (fun p => (p.1, p.2.1, p.2.2.1)) (fun _ => rfl) (fun p h => ⟨h.1, h.2.1, h.2.2.1⟩)
theorem topSparesBook_op43 : Opens Try.prog 43 12 (fun x : Int × Int × Int × Int × Int × Int × Int × Int × Int × Int × Int × Int => [D.v (.int .u8 x.1), D.v (.int .u8 x.2.1), D.v (.int .u8 x.2.2.1), D.v (.int .u8 x.2.2.2.1), D.v (.int .u8 x.2.2.2.2.1), D.v (.int .u8 x.2.2.2.2.2.1), D.v (.int .u8 x.2.2.2.2.2.2.1), D.v (.int .u8 x.2.2.2.2.2.2.2.1), D.v (.int .u8 x.2.2.2.2.2.2.2.2.1), D.v (.int .u8 x.2.2.2.2.2.2.2.2.2.1), D.v (.int .u8 x.2.2.2.2.2.2.2.2.2.2.1), D.v (.int .u8 x.2.2.2.2.2.2.2.2.2.2.2)]) (fun x => (Lit.int .u8 x.1).wf = true ∧ (Lit.int .u8 x.2.1).wf = true ∧ (Lit.int .u8 x.2.2.1).wf = true ∧ (Lit.int .u8 x.2.2.2.1).wf = true ∧ (Lit.int .u8 x.2.2.2.2.1).wf = true ∧ (Lit.int .u8 x.2.2.2.2.2.1).wf = true ∧ (Lit.int .u8 x.2.2.2.2.2.2.1).wf = true ∧ (Lit.int .u8 x.2.2.2.2.2.2.2.1).wf = true ∧ (Lit.int .u8 x.2.2.2.2.2.2.2.2.1).wf = true ∧ (Lit.int .u8 x.2.2.2.2.2.2.2.2.2.1).wf = true ∧ (Lit.int .u8 x.2.2.2.2.2.2.2.2.2.2.1).wf = true ∧ (Lit.int .u8 x.2.2.2.2.2.2.2.2.2.2.2).wf = true) := (opens_array (m := 4) (s := 3) Try.underlying43 (by kernel_rfl) (by kernel_rfl) (parts_cons topSparesBook_op42 (parts_cons topSparesBook_op42 (parts_cons topSparesBook_op42 (parts_cons topSparesBook_op42 parts_nil))))).map (fun p => (p.1.1, p.1.2.1, p.1.2.2, p.2.1.1, p.2.1.2.1, p.2.1.2.2, p.2.2.1.1, p.2.2.1.2.1, p.2.2.1.2.2, p.2.2.2.1.1, p.2.2.2.1.2.1, p.2.2.2.1.2.2)) (fun _ => rfl) (fun p h => ⟨h.1.1, h.1.2.1, h.1.2.2, h.2.1.1, h.2.1.2.1, h.2.1.2.2, h.2.2.1.1, h.2.2.1.2.1, h.2.2.1.2.2, h.2.2.2.1.1, h.2.2.2.1.2.1, h.2.2.2.1.2.2⟩)
theorem topSparesBook_op44 : Opens Try.prog 44 4 (fun x : Int × Int × Int × Int => [D.v (.int .u8 x.1), D.v (.int .u8 x.2.1), D.v (.int .u8 x.2.2.1), D.v (.int .u8 x.2.2.2)]) (fun x => (Lit.int .u8 x.1).wf = true ∧ (Lit.int .u8 x.2.1).wf = true ∧ (Lit.int .u8 x.2.2.1).wf = true ∧ (Lit.int .u8 x.2.2.2).wf = true) := (opens_array (m := 4) (s := 1) Try.underlying44 (by kernel_rfl) (by kernel_rfl) (parts_cons topSparesBook_op5 (parts_cons topSparesBook_op5 (parts_cons topSparesBook_op5 (parts_cons topSparesBook_op5 parts_nil))))).map (fun p => (p.1, p.2.1, p.2.2.1, p.2.2.2.1)) (fun _ => rfl) (fun p h => ⟨h.1, h.2.1, h.2.2.1, h.2.2.2.1⟩)
theorem topSparesBook_op45 : Opens Try.prog 45 2 (fun x : Int × Int => [D.v (.int .u8 x.1), D.v (.int .u8 x.2)]) (fun x => (Lit.int .u8 x.1).wf = true ∧ (Lit.int .u8 x.2).wf = true) := (opens_array (m := 2) (s := 1) Try.underlying45 (by kernel_rfl) (by kernel_rfl) (parts_cons topSparesBook_op5 (parts_cons topSparesBook_op5 parts_nil))).map (fun p => (p.1, p.2.1)) (fun _ => rfl) (fun p h => ⟨h.1, h.2.1⟩)
theorem topSparesBook_own : ownKnob Try.prog.godebug = none := by kernel_rfl
theorem topSparesBook_laid : laidOutB Try.prog = true := by kernel_rfl
set_option maxRecDepth 100000 in
set_option maxHeartbeats 1000000 in
theorem topSparesBook_lifted (os : Os) (started : os.Started) (H : Type) (enc : TypeId × Value → H) :
    ReturnsInHanded {} Try.checked os 4 .any (Rows.topSparesBookSpec.pre6 enc Try.prog Try.f4 Rows.topSparesBookRow.domain false) (Rows.topSparesBookSpec.post enc Try.prog Try.f4 false true false false) := by
  refine returnsInHanded_of_change (C := Try.checked) topSparesBook_own started (by kernel_rfl) Try.func4
    (ChangeSpec.witness6 (enc := enc) (C := Try.checked) false ⟨#[], #[.agg #[.int .u8 0, .int .u8 0, .int .u8 0, .int .u8 0, .int .u8 0, .int .u8 0, .int .u8 0, .int .u8 0, .int .u8 0, .int .u8 0, .int .u8 0, .int .u8 0], .agg #[.int .u8 0, .int .u8 0, .int .u8 0, .int .u8 0], .agg #[.int .u8 0, .int .u8 0]], []⟩ 8 (by kernel_rfl) (by kernel_rfl) (by kernel_rfl) (by kernel_rfl)) ?_
  intro W base args ds gs before hval0 hW hcnd _
  have hval : ∀ (j : Nat) t v, Try.f4.params[j]? = some t → args[j]? = some v → Value.okWide Try.prog W .any base t v := hval0
  have hW' := hW
  obtain ⟨p, q, hA0, hV, rfl, hfz, hnd⟩ := hW
  have hA : DataW.TrodAll enc Try.prog W 0 (fun _ => true) true Try.f4.params.toList args.toList ds p := hA0
  rw [Try.params4] at hA hval
  obtain ⟨v0, vs0, d0, ds0, p0, q0, hargs, rfl, rfl, h0, r0⟩ := trodAll_cons hA
  obtain ⟨v1, vs1, d1, ds1, p1, q1, rfl, rfl, rfl, h1, r1⟩ := trodAll_cons r0
  obtain ⟨v2, vs2, d2, ds2, p2, q2, rfl, rfl, rfl, h2, r2⟩ := trodAll_cons r1
  obtain ⟨rfl, rfl, rfl⟩ := trodAll_nil r2
  obtain rfl : args = #[v0, v1, v2] := by cases args; simp_all
  obtain ⟨rfl, rfl⟩ := trodVars_none hV
  have k0 := h0
  have lt0 : ∀ x ∈ p0, x.block < W.heap.size := by obtain ⟨m, hm⟩ := k0; exact DataW.trod_lt m _ _ _ hm
  have k1 := h1
  have lt1 : ∀ x ∈ p1, x.block < W.heap.size := by obtain ⟨m, hm⟩ := k1; exact DataW.trod_lt m _ _ _ hm
  have k2 := h2
  have lt2 : ∀ x ∈ p2, x.block < W.heap.size := by obtain ⟨m, hm⟩ := k2; exact DataW.trod_lt m _ _ _ hm
  obtain ⟨a0, cs0, w0, rfl, ok0⟩ := arg_agg (agg_array Try.underlying43 (hval 0 43 v0 rfl rfl)) topSparesBook_op43 h0
  obtain ⟨u0_0, cs0_0, rfl, e0_0, ok0_0⟩ := okL_cons ok0
  cases e0_0
  obtain ⟨u0_1, cs0_1, rfl, e0_1, ok0_1⟩ := okL_cons ok0_0
  cases e0_1
  obtain ⟨u0_2, cs0_2, rfl, e0_2, ok0_2⟩ := okL_cons ok0_1
  cases e0_2
  obtain ⟨u0_3, cs0_3, rfl, e0_3, ok0_3⟩ := okL_cons ok0_2
  cases e0_3
  obtain ⟨u0_4, cs0_4, rfl, e0_4, ok0_4⟩ := okL_cons ok0_3
  cases e0_4
  obtain ⟨u0_5, cs0_5, rfl, e0_5, ok0_5⟩ := okL_cons ok0_4
  cases e0_5
  obtain ⟨u0_6, cs0_6, rfl, e0_6, ok0_6⟩ := okL_cons ok0_5
  cases e0_6
  obtain ⟨u0_7, cs0_7, rfl, e0_7, ok0_7⟩ := okL_cons ok0_6
  cases e0_7
  obtain ⟨u0_8, cs0_8, rfl, e0_8, ok0_8⟩ := okL_cons ok0_7
  cases e0_8
  obtain ⟨u0_9, cs0_9, rfl, e0_9, ok0_9⟩ := okL_cons ok0_8
  cases e0_9
  obtain ⟨u0_10, cs0_10, rfl, e0_10, ok0_10⟩ := okL_cons ok0_9
  cases e0_10
  obtain ⟨u0_11, cs0_11, rfl, e0_11, ok0_11⟩ := okL_cons ok0_10
  cases e0_11
  cases okL_nil ok0_11
  obtain ⟨a1, cs1, w1, rfl, ok1⟩ := arg_agg (agg_array Try.underlying44 (hval 1 44 v1 rfl rfl)) topSparesBook_op44 h1
  obtain ⟨u1_0, cs1_0, rfl, e1_0, ok1_0⟩ := okL_cons ok1
  cases e1_0
  obtain ⟨u1_1, cs1_1, rfl, e1_1, ok1_1⟩ := okL_cons ok1_0
  cases e1_1
  obtain ⟨u1_2, cs1_2, rfl, e1_2, ok1_2⟩ := okL_cons ok1_1
  cases e1_2
  obtain ⟨u1_3, cs1_3, rfl, e1_3, ok1_3⟩ := okL_cons ok1_2
  cases e1_3
  cases okL_nil ok1_3
  obtain ⟨a2, cs2, w2, rfl, ok2⟩ := arg_agg (agg_array Try.underlying45 (hval 2 45 v2 rfl rfl)) topSparesBook_op45 h2
  obtain ⟨u2_0, cs2_0, rfl, e2_0, ok2_0⟩ := okL_cons ok2
  cases e2_0
  obtain ⟨u2_1, cs2_1, rfl, e2_1, ok2_1⟩ := okL_cons ok2_0
  cases e2_1
  cases okL_nil ok2_1
  clear hA0 hval0
  obtain ⟨fuel, hev⟩ := topSparesBook_evx w0 w1 w2
  refine (FC.run (fc_top_TopSparesBook hev) (fun k => .bool false) rfl (fun y hy => ?_)).mono fun e W' ⟨he, bel⟩ => ?_
  · cases hy
  subst he
  exact ⟨_, rfl, _, _, _, [], _, [], hW', trodAll_mk1 (shut_bool Try.underlying4 _), (trodAll_cons_mk (Below.trod topSparesBook_laid (by kernel_rfl) (of_decide_eq_true (by kernel_rfl)) k0 bel lt0) (trodAll_cons_mk (Below.trod topSparesBook_laid (by kernel_rfl) (of_decide_eq_true (by kernel_rfl)) k1 bel lt1) (trodAll_cons_mk (Below.trod topSparesBook_laid (by kernel_rfl) (of_decide_eq_true (by kernel_rfl)) k2 bel lt2) trodAll_mk0))), rfl, bel.frame _, fun h => by cases h⟩

theorem topSparesBook_q1 : Try.checked.prog.funcNamed Rows.topSparesBookRow.func = some 4 := by kernel_rfl
theorem topSparesBook_q2 : joinedFacts Try.checked.prog 4 Try.f4 Rows.topSparesBookSpec Rows.topSparesBookRow = true := by kernel_rfl
theorem topSparesBook_q3 : Try.f4.isInstance Try.checked.prog Rows.topSparesBookRow.origin Rows.topSparesBookRow.targs := (of_decide_eq_true (by kernel_rfl))
theorem topSparesBook_q4 : Try.f4.isWrapper Try.checked.prog Rows.topSparesBookRow.wrapper Rows.topSparesBookRow.mainSum := (by unfold Func.isWrapper; first | (rw [if_pos (by decide +kernel)]; kernel_rfl) | (rw [if_neg (by decide +kernel)]; exact ⟨rfl, rfl⟩))
theorem topSparesBook_q5 : ∀ os : Os, os.Started → ∀ (H : Type) (enc : TypeId × Value → H), (∀ a b, enc a = enc b → a = b) →
    ReturnsInHanded Rows.topSparesBookRow.assume Try.checked os 4 .any (Rows.topSparesBookRow.pre enc Try.checked.prog Try.f4 (OpenSpec.ofChange Rows.topSparesBookSpec)) (Rows.topSparesBookSpec.post enc Try.checked.prog Try.f4 Rows.topSparesBookRow.apart Rows.topSparesBookRow.fresh Rows.topSparesBookRow.handsOn Rows.topSparesBookRow.again) := fun os started H enc _ => topSparesBook_lifted os started H enc
theorem topSparesBook_said : Rows.TopSparesBookSaid :=
  OpenClaim.holds_of_wide 4 Try.f4 rfl rfl rfl rfl rfl rfl rfl ⟨rfl, rfl, rfl, rfl, rfl⟩ rfl rfl rfl rfl rfl topSparesBook_q1 Try.func4 topSparesBook_q2 topSparesBook_q3 topSparesBook_q4 topSparesBook_q5
end Go.Proofs.Ytmgcinejodpopaa.Sy
namespace Go.Proofs.Ytmgcinejodpopaa
theorem topSparesBook_holds : Rows.TopSparesBookSaid := Sy.topSparesBook_said
#print axioms topSparesBook_holds
end Go.Proofs.Ytmgcinejodpopaa
