/- For every pendulum, weather, truth and number of days TopBeatBook returns true, and changes none of its arguments. -/
import Derived.Test.YtniblgokhibmfaaRows
import Derived.Test.YtniblgokhibmfaaBbEvTopBeatBook
import Derived.Test.YtniblgokhibmfaaBbSymO
import Derived.Test.YtniblgokhibmfaaChecked
import Derived.ProofKit
import Derived.ShutString
import Derived.ChangeOld
set_option linter.unusedSimpArgs false
set_option linter.unusedVariables false
namespace Go.Proofs.Ytniblgokhibmfaa.Sy
open Go.ChangeShapes Go.WideShapes Go.ChangeAt Go.RowKit

theorem topBeatBook_op5 : Opens Try.prog 5 1 (fun x : Int => [D.v (.int .u8 x)]) (fun x => (Lit.int .u8 x).wf = true) := opens_int Try.underlying5 (by kernel_rfl)
theorem topBeatBook_op28 : Opens Try.prog 28 6 (fun x : Int × Int × Int × Int × Int × Int => [D.v (.int .u8 x.1), D.v (.int .u8 x.2.1), D.v (.int .u8 x.2.2.1), D.v (.int .u8 x.2.2.2.1), D.v (.int .u8 x.2.2.2.2.1), D.v (.int .u8 x.2.2.2.2.2)]) (fun x => (Lit.int .u8 x.1).wf = true ∧ (Lit.int .u8 x.2.1).wf = true ∧ (Lit.int .u8 x.2.2.1).wf = true ∧ (Lit.int .u8 x.2.2.2.1).wf = true ∧ (Lit.int .u8 x.2.2.2.2.1).wf = true ∧ (Lit.int .u8 x.2.2.2.2.2).wf = true) := (opens_array (m := 6) (s := 1) Try.underlying28 (by kernel_rfl) (by kernel_rfl) (parts_cons topBeatBook_op5 (parts_cons topBeatBook_op5 (parts_cons topBeatBook_op5 (parts_cons topBeatBook_op5 (parts_cons topBeatBook_op5 (parts_cons topBeatBook_op5 parts_nil))))))).map (fun p => (p.1, p.2.1, p.2.2.1, p.2.2.2.1, p.2.2.2.2.1, p.2.2.2.2.2.1)) (fun _ => rfl) (fun p h => ⟨h.1, h.2.1, h.2.2.1, h.2.2.2.1, h.2.2.2.2.1, h.2.2.2.2.2.1⟩)
theorem topBeatBook_op27 : Opens Try.prog 27 1 (fun x : (List Int) => [D.s 1 (List.map (fun el5 : Int => [D.v (.int .u8 el5)]) x)]) (fun x => ((x).length ≤ maxLen ∧ ∀ el5 ∈ x, (Lit.int .u8 el5).wf = true)) := opens_slice Try.underlying27 (by kernel_rfl) (by decide) topBeatBook_op5
theorem topBeatBook_op24 : Opens Try.prog 24 4 (fun x : Int × Int × Int × Int => [D.v (.int .u8 x.1), D.v (.int .u8 x.2.1), D.v (.int .u8 x.2.2.1), D.v (.int .u8 x.2.2.2)]) (fun x => (Lit.int .u8 x.1).wf = true ∧ (Lit.int .u8 x.2.1).wf = true ∧ (Lit.int .u8 x.2.2.1).wf = true ∧ (Lit.int .u8 x.2.2.2).wf = true) := (opens_array (m := 4) (s := 1) Try.underlying24 (by kernel_rfl) (by kernel_rfl) (parts_cons topBeatBook_op5 (parts_cons topBeatBook_op5 (parts_cons topBeatBook_op5 (parts_cons topBeatBook_op5 parts_nil))))).map (fun p => (p.1, p.2.1, p.2.2.1, p.2.2.2.1)) (fun _ => rfl) (fun p h => ⟨h.1, h.2.1, h.2.2.1, h.2.2.2.1⟩)
theorem topBeatBook_op23 : Opens Try.prog 23 1 (fun x : Int => [D.v (.int .i8 x)]) (fun x => (Lit.int .i8 x).wf = true) := opens_int Try.underlying23 (by kernel_rfl)
theorem topBeatBook_op78 : Opens Try.prog 78 3 (fun x : Int × Int × Int => [D.v (.int .u8 x.1), D.v (.int .u8 x.2.1), D.v (.int .u8 x.2.2)]) (fun x => (Lit.int .u8 x.1).wf = true ∧ (Lit.int .u8 x.2.1).wf = true ∧ (Lit.int .u8 x.2.2).wf = true) := (opens_array (m := 3) (s := 1) Try.underlying78 (by kernel_rfl) (by kernel_rfl) (parts_cons topBeatBook_op5 (parts_cons topBeatBook_op5 (parts_cons topBeatBook_op5 parts_nil)))).map (fun p => (p.1, p.2.1, p.2.2.1)) (fun _ => rfl) (fun p h => ⟨h.1, h.2.1, h.2.2.1⟩)
theorem topBeatBook_op22 : Opens Try.prog 22 1 (fun x : (List (Int × Int × Int)) => [D.s 3 (List.map (fun el78 : Int × Int × Int => [D.v (.int .u8 el78.1), D.v (.int .u8 el78.2.1), D.v (.int .u8 el78.2.2)]) x)]) (fun x => ((x).length ≤ maxLen ∧ ∀ el78 ∈ x, (Lit.int .u8 el78.1).wf = true ∧ (Lit.int .u8 el78.2.1).wf = true ∧ (Lit.int .u8 el78.2.2).wf = true)) := opens_slice Try.underlying22 (by kernel_rfl) (by decide) topBeatBook_op78
theorem topBeatBook_op26 : Opens Try.prog 26 7 (fun x : (List (Int × Int × Int)) × Int × Int × Int × Int × Int × Int => [D.s 3 (List.map (fun el78 : Int × Int × Int => [D.v (.int .u8 el78.1), D.v (.int .u8 el78.2.1), D.v (.int .u8 el78.2.2)]) x.1), D.v (.int .u8 x.2.1), D.v (.int .i8 x.2.2.1), D.v (.int .u8 x.2.2.2.1), D.v (.int .u8 x.2.2.2.2.1), D.v (.int .u8 x.2.2.2.2.2.1), D.v (.int .u8 x.2.2.2.2.2.2)]) (fun x => ((x.1).length ≤ maxLen ∧ ∀ el78 ∈ x.1, (Lit.int .u8 el78.1).wf = true ∧ (Lit.int .u8 el78.2.1).wf = true ∧ (Lit.int .u8 el78.2.2).wf = true) ∧ (Lit.int .u8 x.2.1).wf = true ∧ (Lit.int .i8 x.2.2.1).wf = true ∧ (Lit.int .u8 x.2.2.2.1).wf = true ∧ (Lit.int .u8 x.2.2.2.2.1).wf = true ∧ (Lit.int .u8 x.2.2.2.2.2.1).wf = true ∧ (Lit.int .u8 x.2.2.2.2.2.2).wf = true) := (opens_struct Try.underlying26 (by kernel_rfl) (by kernel_rfl) (parts_cons topBeatBook_op22 (parts_cons topBeatBook_op5 (parts_cons topBeatBook_op23 (parts_cons topBeatBook_op24 parts_nil))))).map (fun p => (p.1, p.2.1, p.2.2.1, p.2.2.2.1.1, p.2.2.2.1.2.1, p.2.2.2.1.2.2.1, p.2.2.2.1.2.2.2)) (fun _ => rfl) (fun p h => ⟨h.1, h.2.1, h.2.2.1, h.2.2.2.1.1, h.2.2.2.1.2.1, h.2.2.2.1.2.2.1, h.2.2.2.1.2.2.2⟩)
theorem topBeatBook_op30 : Opens Try.prog 30 18 (fun x : (List (Int × Int × Int)) × Int × Int × Int × Int × Int × Int × Int × Int × Int × Int × (List Int) × Int × Int × Int × Int × Int × Int => [D.s 3 (List.map (fun el78 : Int × Int × Int => [D.v (.int .u8 el78.1), D.v (.int .u8 el78.2.1), D.v (.int .u8 el78.2.2)]) x.1), D.v (.int .u8 x.2.1), D.v (.int .i8 x.2.2.1), D.v (.int .u8 x.2.2.2.1), D.v (.int .u8 x.2.2.2.2.1), D.v (.int .u8 x.2.2.2.2.2.1), D.v (.int .u8 x.2.2.2.2.2.2.1), D.v (.int .u8 x.2.2.2.2.2.2.2.1), D.v (.int .u8 x.2.2.2.2.2.2.2.2.1), D.v (.int .u8 x.2.2.2.2.2.2.2.2.2.1), D.v (.int .u8 x.2.2.2.2.2.2.2.2.2.2.1), D.s 1 (List.map (fun el5 : Int => [D.v (.int .u8 el5)]) x.2.2.2.2.2.2.2.2.2.2.2.1), D.v (.int .u8 x.2.2.2.2.2.2.2.2.2.2.2.2.1), D.v (.int .u8 x.2.2.2.2.2.2.2.2.2.2.2.2.2.1), D.v (.int .u8 x.2.2.2.2.2.2.2.2.2.2.2.2.2.2.1), D.v (.int .u8 x.2.2.2.2.2.2.2.2.2.2.2.2.2.2.2.1), D.v (.int .u8 x.2.2.2.2.2.2.2.2.2.2.2.2.2.2.2.2.1), D.v (.int .u8 x.2.2.2.2.2.2.2.2.2.2.2.2.2.2.2.2.2)]) (fun x => ((x.1).length ≤ maxLen ∧ ∀ el78 ∈ x.1, (Lit.int .u8 el78.1).wf = true ∧ (Lit.int .u8 el78.2.1).wf = true ∧ (Lit.int .u8 el78.2.2).wf = true) ∧ (Lit.int .u8 x.2.1).wf = true ∧ (Lit.int .i8 x.2.2.1).wf = true ∧ (Lit.int .u8 x.2.2.2.1).wf = true ∧ (Lit.int .u8 x.2.2.2.2.1).wf = true ∧ (Lit.int .u8 x.2.2.2.2.2.1).wf = true ∧ (Lit.int .u8 x.2.2.2.2.2.2.1).wf = true ∧ (Lit.int .u8 x.2.2.2.2.2.2.2.1).wf = true ∧ (Lit.int .u8 x.2.2.2.2.2.2.2.2.1).wf = true ∧ (Lit.int .u8 x.2.2.2.2.2.2.2.2.2.1).wf = true ∧ (Lit.int .u8 x.2.2.2.2.2.2.2.2.2.2.1).wf = true ∧ ((x.2.2.2.2.2.2.2.2.2.2.2.1).length ≤ maxLen ∧ ∀ el5 ∈ x.2.2.2.2.2.2.2.2.2.2.2.1, (Lit.int .u8 el5).wf = true) ∧ (Lit.int .u8 x.2.2.2.2.2.2.2.2.2.2.2.2.1).wf = true ∧ (Lit.int .u8 x.2.2.2.2.2.2.2.2.2.2.2.2.2.1).wf = true ∧ (Lit.int .u8 x.2.2.2.2.2.2.2.2.2.2.2.2.2.2.1).wf = true ∧ (Lit.int .u8 x.2.2.2.2.2.2.2.2.2.2.2.2.2.2.2.1).wf = true ∧ (Lit.int .u8 x.2.2.2.2.2.2.2.2.2.2.2.2.2.2.2.2.1).wf = true ∧ (Lit.int .u8 x.2.2.2.2.2.2.2.2.2.2.2.2.2.2.2.2.2).wf = true) := (opens_struct Try.underlying30 (by kernel_rfl) (by kernel_rfl) (parts_cons topBeatBook_op26 (parts_cons topBeatBook_op24 (parts_cons topBeatBook_op27 (parts_cons topBeatBook_op28 parts_nil))))).map (fun p => (p.1.1, p.1.2.1, p.1.2.2.1, p.1.2.2.2.1, p.1.2.2.2.2.1, p.1.2.2.2.2.2.1, p.1.2.2.2.2.2.2, p.2.1.1, p.2.1.2.1, p.2.1.2.2.1, p.2.1.2.2.2, p.2.2.1, p.2.2.2.1.1, p.2.2.2.1.2.1, p.2.2.2.1.2.2.1, p.2.2.2.1.2.2.2.1, p.2.2.2.1.2.2.2.2.1, p.2.2.2.1.2.2.2.2.2)) (fun _ => rfl) (fun p h => ⟨h.1.1, h.1.2.1, h.1.2.2.1, h.1.2.2.2.1, h.1.2.2.2.2.1, h.1.2.2.2.2.2.1, h.1.2.2.2.2.2.2, h.2.1.1, h.2.1.2.1, h.2.1.2.2.1, h.2.1.2.2.2, h.2.2.1, h.2.2.2.1.1, h.2.2.2.1.2.1, h.2.2.2.1.2.2.1, h.2.2.2.1.2.2.2.1, h.2.2.2.1.2.2.2.2.1, h.2.2.2.1.2.2.2.2.2⟩)
theorem topBeatBook_own : ownKnob Try.prog.godebug = none := by kernel_rfl
theorem topBeatBook_laid : laidOutB Try.prog = true := by kernel_rfl
set_option maxRecDepth 100000 in
set_option maxHeartbeats 1000000 in
theorem topBeatBook_lifted (os : Os) (started : os.Started) (H : Type) (enc : TypeId × Value → H) :
    ReturnsInHanded {} Try.checked os 3 .any (Rows.topBeatBookSpec.pre6 enc Try.prog Try.f3 Rows.topBeatBookRow.domain false) (Rows.topBeatBookSpec.post enc Try.prog Try.f3 false true false false) := by
  refine returnsInHanded_of_change (C := Try.checked) topBeatBook_own started (by kernel_rfl) Try.func3
    (ChangeSpec.witness6 (enc := enc) (C := Try.checked) false ⟨#[], #[.agg #[.slice none 0 0, .int .u8 0, .int .i8 0, .int .u8 0, .int .u8 0, .int .u8 0, .int .u8 0, .int .u8 0, .int .u8 0, .int .u8 0, .int .u8 0, .slice none 0 0, .int .u8 0, .int .u8 0, .int .u8 0, .int .u8 0, .int .u8 0, .int .u8 0]], []⟩ 8 (by kernel_rfl) (by kernel_rfl) (by kernel_rfl) (by kernel_rfl)) ?_
  intro W base args ds gs before hval0 hW hcnd _
  have hval : ∀ (j : Nat) t v, Try.f3.params[j]? = some t → args[j]? = some v → Value.okWide Try.prog W .any base t v := hval0
  have hW' := hW
  obtain ⟨p, q, hA0, hV, rfl, hfz, hnd⟩ := hW
  have hA : DataW.TrodAll enc Try.prog W 0 (fun _ => true) true Try.f3.params.toList args.toList ds p := hA0
  rw [Try.params3] at hA hval
  obtain ⟨v0, vs0, d0, ds0, p0, q0, hargs, rfl, rfl, h0, r0⟩ := trodAll_cons hA
  obtain ⟨rfl, rfl, rfl⟩ := trodAll_nil r0
  obtain rfl : args = #[v0] := by cases args; simp_all
  obtain ⟨rfl, rfl⟩ := trodVars_none hV
  have k0 := h0
  have lt0 : ∀ x ∈ p0, x.block < W.heap.size := by obtain ⟨m, hm⟩ := k0; exact DataW.trod_lt m _ _ _ hm
  obtain ⟨a0, cs0, w0, rfl, ok0⟩ := arg_agg (agg_struct Try.underlying30 (hval 0 30 v0 rfl rfl)) topBeatBook_op30 h0
  obtain ⟨u0_0, cs0_0, rfl, e0_0, ok0_0⟩ := okL_cons ok0
  obtain ⟨b0_0, n0_0, c0_0, rfl⟩ := reads_slice e0_0
  obtain ⟨u0_1, cs0_1, rfl, e0_1, ok0_1⟩ := okL_cons ok0_0
  cases e0_1
  obtain ⟨u0_2, cs0_2, rfl, e0_2, ok0_2⟩ := okL_cons ok0_1
  cases e0_2
  obtain ⟨u0_3, cs0_3, rfl, e0_3, ok0_3⟩ := okL_cons ok0_2
  cases e0_3
  obtain ⟨u0_4, cs0_4, rfl, e0_4, ok0_4⟩ := okL_cons ok0_3
  cases e0_4
  obtain ⟨u0_5, cs0_5, rfl, e0_5, ok0_5⟩ := okL_cons ok0_4
  cases e0_5
  obtain ⟨u0_6, cs0_6, rfl, e0_6, ok0_6⟩ := okL_cons ok0_5
  cases e0_6
  obtain ⟨u0_7, cs0_7, rfl, e0_7, ok0_7⟩ := okL_cons ok0_6
  cases e0_7
  obtain ⟨u0_8, cs0_8, rfl, e0_8, ok0_8⟩ := okL_cons ok0_7
  cases e0_8
  obtain ⟨u0_9, cs0_9, rfl, e0_9, ok0_9⟩ := okL_cons ok0_8
  cases e0_9
  obtain ⟨u0_10, cs0_10, rfl, e0_10, ok0_10⟩ := okL_cons ok0_9
  cases e0_10
  obtain ⟨u0_11, cs0_11, rfl, e0_11, ok0_11⟩ := okL_cons ok0_10
  obtain ⟨b0_11, n0_11, c0_11, rfl⟩ := reads_slice e0_11
  obtain ⟨u0_12, cs0_12, rfl, e0_12, ok0_12⟩ := okL_cons ok0_11
  cases e0_12
  obtain ⟨u0_13, cs0_13, rfl, e0_13, ok0_13⟩ := okL_cons ok0_12
  cases e0_13
  obtain ⟨u0_14, cs0_14, rfl, e0_14, ok0_14⟩ := okL_cons ok0_13
  cases e0_14
  obtain ⟨u0_15, cs0_15, rfl, e0_15, ok0_15⟩ := okL_cons ok0_14
  cases e0_15
  obtain ⟨u0_16, cs0_16, rfl, e0_16, ok0_16⟩ := okL_cons ok0_15
  cases e0_16
  obtain ⟨u0_17, cs0_17, rfl, e0_17, ok0_17⟩ := okL_cons ok0_16
  cases e0_17
  cases okL_nil ok0_17
  clear hA0 hval0
  obtain ⟨fuel, hev⟩ := topBeatBook_evx w0
  refine (FC.run (fc_top_TopBeatBook hev) (fun k => if k = 0 then (.slice b0_0 n0_0 c0_0) else if k = 1 then (.slice b0_11 n0_11 c0_11) else .bool false) rfl (fun y hy => ?_)).mono fun e W' ⟨he, bel⟩ => ?_
  · simp only [List.mem_cons, List.not_mem_nil, or_false] at hy
    rcases hy with rfl | rfl
    · exact e0_0
    · exact e0_11
  subst he
  exact ⟨_, rfl, _, _, _, [], _, [], hW', trodAll_mk1 (shut_bool Try.underlying4 _), (trodAll_cons_mk (Below.trod topBeatBook_laid (by kernel_rfl) (of_decide_eq_true (by kernel_rfl)) k0 bel lt0) trodAll_mk0), rfl, bel.frame _, fun h => by cases h⟩

theorem topBeatBook_q1 : Try.checked.prog.funcNamed Rows.topBeatBookRow.func = some 3 := by kernel_rfl
theorem topBeatBook_and {a b : Bool} (ha : a = true) (hb : b = true) : (a && b) = true := by rw [ha, hb]; rfl
set_option maxHeartbeats 4000000 in
theorem topBeatBook_q2 : joinedFacts Try.checked.prog 3 Try.f3 Rows.topBeatBookSpec Rows.topBeatBookRow = true := by
  unfold joinedFacts
  exact topBeatBook_and (topBeatBook_and (topBeatBook_and (topBeatBook_and (topBeatBook_and (topBeatBook_and (topBeatBook_and (topBeatBook_and (topBeatBook_and (topBeatBook_and (topBeatBook_and (topBeatBook_and (topBeatBook_and (topBeatBook_and (topBeatBook_and (topBeatBook_and (topBeatBook_and (topBeatBook_and (topBeatBook_and (topBeatBook_and (topBeatBook_and (topBeatBook_and (topBeatBook_and (topBeatBook_and (topBeatBook_and (topBeatBook_and (topBeatBook_and (topBeatBook_and (topBeatBook_and (topBeatBook_and (topBeatBook_and (by as_aux_lemma => kernel_rfl) (by as_aux_lemma => kernel_rfl)) (by as_aux_lemma => kernel_rfl)) (by as_aux_lemma => kernel_rfl)) (by as_aux_lemma => kernel_rfl)) (by as_aux_lemma => kernel_rfl)) (by as_aux_lemma => kernel_rfl)) (by as_aux_lemma => kernel_rfl)) (by as_aux_lemma => kernel_rfl)) (by as_aux_lemma => kernel_rfl)) (by as_aux_lemma => kernel_rfl)) (by as_aux_lemma => kernel_rfl)) (by as_aux_lemma => kernel_rfl)) (by as_aux_lemma => kernel_rfl)) (by as_aux_lemma => kernel_rfl)) (by as_aux_lemma => kernel_rfl)) (by as_aux_lemma => kernel_rfl)) (by as_aux_lemma => kernel_rfl)) (by as_aux_lemma => kernel_rfl)) (by as_aux_lemma => kernel_rfl)) (by as_aux_lemma => kernel_rfl)) (by as_aux_lemma => kernel_rfl)) (by as_aux_lemma => kernel_rfl)) (by as_aux_lemma => kernel_rfl)) (by as_aux_lemma => kernel_rfl)) (by as_aux_lemma => kernel_rfl)) (by as_aux_lemma => kernel_rfl)) (by as_aux_lemma => kernel_rfl)) (by as_aux_lemma => kernel_rfl)) (by as_aux_lemma => kernel_rfl)) (by as_aux_lemma => kernel_rfl)) (by as_aux_lemma => kernel_rfl)
theorem topBeatBook_q3 : Try.f3.isInstance Try.checked.prog Rows.topBeatBookRow.origin Rows.topBeatBookRow.targs := (of_decide_eq_true (by kernel_rfl))
theorem topBeatBook_q4 : Try.f3.isWrapper Try.checked.prog Rows.topBeatBookRow.wrapper Rows.topBeatBookRow.mainSum := (by unfold Func.isWrapper; first | (rw [if_pos (by decide +kernel)]; kernel_rfl) | (rw [if_neg (by decide +kernel)]; exact ⟨rfl, rfl⟩))
theorem topBeatBook_q5 : ∀ os : Os, os.Started → ∀ (H : Type) (enc : TypeId × Value → H), (∀ a b, enc a = enc b → a = b) →
    ReturnsInHanded Rows.topBeatBookRow.assume Try.checked os 3 .any (Rows.topBeatBookRow.pre enc Try.checked.prog Try.f3 (OpenSpec.ofChange Rows.topBeatBookSpec)) (Rows.topBeatBookSpec.post enc Try.checked.prog Try.f3 Rows.topBeatBookRow.apart Rows.topBeatBookRow.fresh Rows.topBeatBookRow.handsOn Rows.topBeatBookRow.again) := fun os started H enc _ => topBeatBook_lifted os started H enc
theorem topBeatBook_said : Rows.TopBeatBookSaid :=
  OpenClaim.holds_of_wide 3 Try.f3 rfl rfl rfl rfl rfl rfl rfl ⟨rfl, rfl, rfl, rfl, rfl⟩ rfl rfl rfl rfl rfl topBeatBook_q1 Try.func3 topBeatBook_q2 topBeatBook_q3 topBeatBook_q4 topBeatBook_q5
end Go.Proofs.Ytniblgokhibmfaa.Sy
namespace Go.Proofs.Ytniblgokhibmfaa
theorem topBeatBook_holds : Rows.TopBeatBookSaid := Sy.topBeatBook_said
#print axioms topBeatBook_holds
end Go.Proofs.Ytniblgokhibmfaa
