/- The rounds to any towers with the fewest winders, or the error, are what the document says. -/
import Derived.Test.YtohjpfkcahlfkaaGreatRows
import Derived.Test.YtohjpfkcahlfkaaGreatPfEvRoundFewests
import Derived.Test.YtohjpfkcahlfkaaGreatPfSymO
import Derived.Test.YtohjpfkcahlfkaaGreatChecked
import Derived.ProofKit
import Derived.ShutString
import Derived.ChangeOld
set_option linter.unusedSimpArgs false
set_option linter.unusedVariables false
namespace Go.Proofs.YtohjpfkcahlfkaaGreat.Sy
open Go.ChangeShapes Go.WideShapes Go.ChangeAt Go.RowKit

theorem roundFewests_op3 : Opens Tryz.prog 3 1 (fun x : Int => [D.v (.int .i64 x)]) (fun x => (Lit.int .i64 x).wf = true) := opens_int Tryz.underlying3 (by kernel_rfl)
theorem roundFewests_op48 : Opens Tryz.prog 48 1 (fun x : Int => [D.v (.int .u16 x)]) (fun x => (Lit.int .u16 x).wf = true) := opens_int Tryz.underlying48 (by kernel_rfl)
theorem roundFewests_op50 : Opens Tryz.prog 50 4 (fun x : Int × Int × Int × Int => [D.v (.int .u16 x.1), D.v (.int .i64 x.2.1), D.v (.int .i64 x.2.2.1), D.v (.int .i64 x.2.2.2)]) (fun x => (Lit.int .u16 x.1).wf = true ∧ (Lit.int .i64 x.2.1).wf = true ∧ (Lit.int .i64 x.2.2.1).wf = true ∧ (Lit.int .i64 x.2.2.2).wf = true) := (opens_struct Tryz.underlying50 (by kernel_rfl) (by kernel_rfl) (parts_cons roundFewests_op48 (parts_cons roundFewests_op3 (parts_cons roundFewests_op3 (parts_cons roundFewests_op3 parts_nil))))).map (fun p => (p.1, p.2.1, p.2.2.1, p.2.2.2.1)) (fun _ => rfl) (fun p h => ⟨h.1, h.2.1, h.2.2.1, h.2.2.2.1⟩)
theorem roundFewests_op24 : Opens Tryz.prog 24 1 (fun x : (List (Int × Int × Int × Int)) => [D.s 4 (List.map (fun el50 : Int × Int × Int × Int => [D.v (.int .u16 el50.1), D.v (.int .i64 el50.2.1), D.v (.int .i64 el50.2.2.1), D.v (.int .i64 el50.2.2.2)]) x)]) (fun x => ((x).length ≤ maxLen ∧ ∀ el50 ∈ x, (Lit.int .u16 el50.1).wf = true ∧ (Lit.int .i64 el50.2.1).wf = true ∧ (Lit.int .i64 el50.2.2.1).wf = true ∧ (Lit.int .i64 el50.2.2.2).wf = true)) := opens_slice Tryz.underlying24 (by kernel_rfl) (by decide) roundFewests_op50
theorem roundFewests_op27 : Opens Tryz.prog 27 1 (fun x : (List Int) => [D.s 1 (List.map (fun el3 : Int => [D.v (.int .i64 el3)]) x)]) (fun x => ((x).length ≤ maxLen ∧ ∀ el3 ∈ x, (Lit.int .i64 el3).wf = true)) := opens_slice Tryz.underlying27 (by kernel_rfl) (by decide) roundFewests_op3
theorem roundFewests_op23 : Opens Tryz.prog 23 1 (fun x : (List ((List Int))) => [D.s 1 (List.map (fun el27 : (List Int) => [D.s 1 (List.map (fun el3 : Int => [D.v (.int .i64 el3)]) el27)]) x)]) (fun x => ((x).length ≤ maxLen ∧ ∀ el27 ∈ x, ((el27).length ≤ maxLen ∧ ∀ el3 ∈ el27, (Lit.int .i64 el3).wf = true))) := opens_slice Tryz.underlying23 (by kernel_rfl) (by decide) roundFewests_op27
theorem roundFewests_op71 : Opens Tryz.prog 71 5 (fun x : Int × Int × Int × Int × Int => [D.v (.int .i64 x.1), D.v (.int .i64 x.2.1), D.v (.int .u16 x.2.2.1), D.v (.int .i64 x.2.2.2.1), D.v (.int .i64 x.2.2.2.2)]) (fun x => (Lit.int .i64 x.1).wf = true ∧ (Lit.int .i64 x.2.1).wf = true ∧ (Lit.int .u16 x.2.2.1).wf = true ∧ (Lit.int .i64 x.2.2.2.1).wf = true ∧ (Lit.int .i64 x.2.2.2.2).wf = true) := (opens_struct Tryz.underlying71 (by kernel_rfl) (by kernel_rfl) (parts_cons roundFewests_op3 (parts_cons roundFewests_op3 (parts_cons roundFewests_op48 (parts_cons roundFewests_op3 (parts_cons roundFewests_op3 parts_nil)))))).map (fun p => (p.1, p.2.1, p.2.2.1, p.2.2.2.1, p.2.2.2.2.1)) (fun _ => rfl) (fun p h => ⟨h.1, h.2.1, h.2.2.1, h.2.2.2.1, h.2.2.2.2.1⟩)
theorem roundFewests_op22 : Opens Tryz.prog 22 1 (fun x : (List (Int × Int × Int × Int × Int)) => [D.s 5 (List.map (fun el71 : Int × Int × Int × Int × Int => [D.v (.int .i64 el71.1), D.v (.int .i64 el71.2.1), D.v (.int .u16 el71.2.2.1), D.v (.int .i64 el71.2.2.2.1), D.v (.int .i64 el71.2.2.2.2)]) x)]) (fun x => ((x).length ≤ maxLen ∧ ∀ el71 ∈ x, (Lit.int .i64 el71.1).wf = true ∧ (Lit.int .i64 el71.2.1).wf = true ∧ (Lit.int .u16 el71.2.2.1).wf = true ∧ (Lit.int .i64 el71.2.2.2.1).wf = true ∧ (Lit.int .i64 el71.2.2.2.2).wf = true)) := opens_slice Tryz.underlying22 (by kernel_rfl) (by decide) roundFewests_op71
theorem roundFewests_op26 : Opens Tryz.prog 26 5 (fun x : (List (Int × Int × Int × Int × Int)) × (List ((List Int))) × (List (Int × Int × Int × Int)) × Int × Int => [D.s 5 (List.map (fun el71 : Int × Int × Int × Int × Int => [D.v (.int .i64 el71.1), D.v (.int .i64 el71.2.1), D.v (.int .u16 el71.2.2.1), D.v (.int .i64 el71.2.2.2.1), D.v (.int .i64 el71.2.2.2.2)]) x.1), D.s 1 (List.map (fun el27 : (List Int) => [D.s 1 (List.map (fun el3 : Int => [D.v (.int .i64 el3)]) el27)]) x.2.1), D.s 4 (List.map (fun el50 : Int × Int × Int × Int => [D.v (.int .u16 el50.1), D.v (.int .i64 el50.2.1), D.v (.int .i64 el50.2.2.1), D.v (.int .i64 el50.2.2.2)]) x.2.2.1), D.v (.int .i64 x.2.2.2.1), D.v (.int .i64 x.2.2.2.2)]) (fun x => ((x.1).length ≤ maxLen ∧ ∀ el71 ∈ x.1, (Lit.int .i64 el71.1).wf = true ∧ (Lit.int .i64 el71.2.1).wf = true ∧ (Lit.int .u16 el71.2.2.1).wf = true ∧ (Lit.int .i64 el71.2.2.2.1).wf = true ∧ (Lit.int .i64 el71.2.2.2.2).wf = true) ∧ ((x.2.1).length ≤ maxLen ∧ ∀ el27 ∈ x.2.1, ((el27).length ≤ maxLen ∧ ∀ el3 ∈ el27, (Lit.int .i64 el3).wf = true)) ∧ ((x.2.2.1).length ≤ maxLen ∧ ∀ el50 ∈ x.2.2.1, (Lit.int .u16 el50.1).wf = true ∧ (Lit.int .i64 el50.2.1).wf = true ∧ (Lit.int .i64 el50.2.2.1).wf = true ∧ (Lit.int .i64 el50.2.2.2).wf = true) ∧ (Lit.int .i64 x.2.2.2.1).wf = true ∧ (Lit.int .i64 x.2.2.2.2).wf = true) := (opens_struct Tryz.underlying26 (by kernel_rfl) (by kernel_rfl) (parts_cons roundFewests_op22 (parts_cons roundFewests_op23 (parts_cons roundFewests_op24 (parts_cons roundFewests_op3 (parts_cons roundFewests_op3 parts_nil)))))).map (fun p => (p.1, p.2.1, p.2.2.1, p.2.2.2.1, p.2.2.2.2.1)) (fun _ => rfl) (fun p h => ⟨h.1, h.2.1, h.2.2.1, h.2.2.2.1, h.2.2.2.2.1⟩)
theorem roundFewests_own : ownKnob Tryz.prog.godebug = none := by kernel_rfl
theorem roundFewests_laid : laidOutB Tryz.prog = true := by kernel_rfl
set_option maxRecDepth 100000 in
set_option maxHeartbeats 1000000 in
theorem roundFewests_lifted (os : Os) (started : os.Started) (H : Type) (enc : TypeId × Value → H) :
    ReturnsInHanded {} Tryz.checked os 5 .any (Rows.roundFewestsSpec.pre6 enc Tryz.prog Tryz.f5 Rows.roundFewestsRow.domain false) (Rows.roundFewestsSpec.post enc Tryz.prog Tryz.f5 false true false false) := by
  refine returnsInHanded_of_change (C := Tryz.checked) roundFewests_own started (by kernel_rfl) Tryz.func5
    (ChangeSpec.witness6 (enc := enc) (C := Tryz.checked) false ⟨#[], #[.agg #[.slice none 0 0, .slice none 0 0, .slice none 0 0, .int .i64 0, .int .i64 0], .slice none 0 0], []⟩ 8 (by kernel_rfl) (by kernel_rfl) (by kernel_rfl) (by kernel_rfl)) ?_
  intro W base args ds gs before hval0 hW hcnd _
  have hval : ∀ (j : Nat) t v, Tryz.f5.params[j]? = some t → args[j]? = some v → Value.okWide Tryz.prog W .any base t v := hval0
  have hW' := hW
  obtain ⟨p, q, hA0, hV, rfl, hfz, hnd⟩ := hW
  have hA : DataW.TrodAll enc Tryz.prog W 0 (fun _ => true) true Tryz.f5.params.toList args.toList ds p := hA0
  rw [Tryz.params5] at hA hval
  obtain ⟨v0, vs0, d0, ds0, p0, q0, hargs, rfl, rfl, h0, r0⟩ := trodAll_cons hA
  obtain ⟨v1, vs1, d1, ds1, p1, q1, rfl, rfl, rfl, h1, r1⟩ := trodAll_cons r0
  obtain ⟨rfl, rfl, rfl⟩ := trodAll_nil r1
  obtain rfl : args = #[v0, v1] := by cases args; simp_all
  obtain ⟨rfl, rfl⟩ := trodVars_none hV
  have k0 := h0
  have lt0 : ∀ x ∈ p0, x.block < W.heap.size := by obtain ⟨m, hm⟩ := k0; exact DataW.trod_lt m _ _ _ hm
  have k1 := h1
  have lt1 : ∀ x ∈ p1, x.block < W.heap.size := by obtain ⟨m, hm⟩ := k1; exact DataW.trod_lt m _ _ _ hm
  obtain ⟨a0, cs0, w0, rfl, ok0⟩ := arg_agg (agg_struct Tryz.underlying26 (hval 0 26 v0 rfl rfl)) roundFewests_op26 h0
  obtain ⟨u0_0, cs0_0, rfl, e0_0, ok0_0⟩ := okL_cons ok0
  obtain ⟨b0_0, n0_0, c0_0, rfl⟩ := reads_slice e0_0
  obtain ⟨u0_1, cs0_1, rfl, e0_1, ok0_1⟩ := okL_cons ok0_0
  obtain ⟨b0_1, n0_1, c0_1, rfl⟩ := reads_slice e0_1
  obtain ⟨u0_2, cs0_2, rfl, e0_2, ok0_2⟩ := okL_cons ok0_1
  obtain ⟨b0_2, n0_2, c0_2, rfl⟩ := reads_slice e0_2
  obtain ⟨u0_3, cs0_3, rfl, e0_3, ok0_3⟩ := okL_cons ok0_2
  cases e0_3
  obtain ⟨u0_4, cs0_4, rfl, e0_4, ok0_4⟩ := okL_cons ok0_3
  cases e0_4
  cases okL_nil ok0_4
  obtain ⟨a1, w1, rd1⟩ := arg_slice Tryz.underlying27 roundFewests_op27 (hval 1 27 v1 rfl rfl) h1
  obtain ⟨b1, n1, c1, rfl⟩ := reads_slice rd1
  clear hA0 hval0
  obtain ⟨fuel, hev⟩ := roundFewests_evx w0 w1
  refine (FC.run (fc_law11_RoundFewests hev) (fun k => if k = 0 then (.slice b0_0 n0_0 c0_0) else if k = 1 then (.slice b0_1 n0_1 c0_1) else if k = 2 then (.slice b0_2 n0_2 c0_2) else if k = 3 then (.slice b1 n1 c1) else .bool false) rfl (fun y hy => ?_)).mono fun e W' ⟨he, bel⟩ => ?_
  · simp only [List.mem_cons, List.not_mem_nil, or_false] at hy
    rcases hy with rfl | rfl | rfl | rfl
    · exact e0_0
    · exact e0_1
    · exact e0_2
    · exact rd1
  subst he
  exact ⟨_, rfl, _, _, _, [], _, [], hW', trodAll_mk1 (shut_bool Tryz.underlying4 _), (trodAll_cons_mk (Below.trod roundFewests_laid (by kernel_rfl) (of_decide_eq_true (by kernel_rfl)) k0 bel lt0) (trodAll_cons_mk (Below.trod roundFewests_laid (by kernel_rfl) (of_decide_eq_true (by kernel_rfl)) k1 bel lt1) trodAll_mk0)), rfl, bel.frame _, fun h => by cases h⟩

theorem roundFewests_q1 : Tryz.checked.prog.funcNamed Rows.roundFewestsRow.func = some 5 := by kernel_rfl
theorem roundFewests_and {a b : Bool} (ha : a = true) (hb : b = true) : (a && b) = true := by rw [ha, hb]; rfl
set_option maxHeartbeats 4000000 in
theorem roundFewests_q2 : joinedFacts Tryz.checked.prog 5 Tryz.f5 Rows.roundFewestsSpec Rows.roundFewestsRow = true := by
  unfold joinedFacts
  exact roundFewests_and (roundFewests_and (roundFewests_and (roundFewests_and (roundFewests_and (roundFewests_and (roundFewests_and (roundFewests_and (roundFewests_and (roundFewests_and (roundFewests_and (roundFewests_and (roundFewests_and (roundFewests_and (roundFewests_and (roundFewests_and (roundFewests_and (roundFewests_and (roundFewests_and (roundFewests_and (roundFewests_and (roundFewests_and (roundFewests_and (roundFewests_and (roundFewests_and (roundFewests_and (roundFewests_and (roundFewests_and (roundFewests_and (roundFewests_and (roundFewests_and (by as_aux_lemma => kernel_rfl) (by as_aux_lemma => kernel_rfl)) (by as_aux_lemma => kernel_rfl)) (by as_aux_lemma => kernel_rfl)) (by as_aux_lemma => kernel_rfl)) (by as_aux_lemma => kernel_rfl)) (by as_aux_lemma => kernel_rfl)) (by as_aux_lemma => kernel_rfl)) (by as_aux_lemma => kernel_rfl)) (by as_aux_lemma => kernel_rfl)) (by as_aux_lemma => kernel_rfl)) (by as_aux_lemma => kernel_rfl)) (by as_aux_lemma => kernel_rfl)) (by as_aux_lemma => kernel_rfl)) (by as_aux_lemma => kernel_rfl)) (by as_aux_lemma => kernel_rfl)) (by as_aux_lemma => kernel_rfl)) (by as_aux_lemma => kernel_rfl)) (by as_aux_lemma => kernel_rfl)) (by as_aux_lemma => kernel_rfl)) (by as_aux_lemma => kernel_rfl)) (by as_aux_lemma => kernel_rfl)) (by as_aux_lemma => kernel_rfl)) (by as_aux_lemma => kernel_rfl)) (by as_aux_lemma => kernel_rfl)) (by as_aux_lemma => kernel_rfl)) (by as_aux_lemma => kernel_rfl)) (by as_aux_lemma => kernel_rfl)) (by as_aux_lemma => kernel_rfl)) (by as_aux_lemma => kernel_rfl)) (by as_aux_lemma => kernel_rfl)) (by as_aux_lemma => kernel_rfl)
theorem roundFewests_q3 : Tryz.f5.isInstance Tryz.checked.prog Rows.roundFewestsRow.origin Rows.roundFewestsRow.targs := (of_decide_eq_true (by kernel_rfl))
theorem roundFewests_q4 : Tryz.f5.isWrapper Tryz.checked.prog Rows.roundFewestsRow.wrapper Rows.roundFewestsRow.mainSum := (by unfold Func.isWrapper; first | (rw [if_pos (by decide +kernel)]; kernel_rfl) | (rw [if_neg (by decide +kernel)]; exact ⟨rfl, rfl⟩))
theorem roundFewests_q5 : ∀ os : Os, os.Started → ∀ (H : Type) (enc : TypeId × Value → H), (∀ a b, enc a = enc b → a = b) →
    ReturnsInHanded Rows.roundFewestsRow.assume Tryz.checked os 5 .any (Rows.roundFewestsRow.pre enc Tryz.checked.prog Tryz.f5 (OpenSpec.ofChange Rows.roundFewestsSpec)) (Rows.roundFewestsSpec.post enc Tryz.checked.prog Tryz.f5 Rows.roundFewestsRow.apart Rows.roundFewestsRow.fresh Rows.roundFewestsRow.handsOn Rows.roundFewestsRow.again) := fun os started H enc _ => roundFewests_lifted os started H enc
theorem roundFewests_said : Rows.RoundFewestsSaid :=
  OpenClaim.holds_of_wide 5 Tryz.f5 rfl rfl rfl rfl rfl rfl rfl ⟨rfl, rfl, rfl, rfl, rfl⟩ rfl rfl rfl rfl rfl roundFewests_q1 Tryz.func5 roundFewests_q2 roundFewests_q3 roundFewests_q4 roundFewests_q5
end Go.Proofs.YtohjpfkcahlfkaaGreat.Sy
namespace Go.Proofs.YtohjpfkcahlfkaaGreat
theorem roundFewests_holds : Rows.RoundFewestsSaid := Sy.roundFewests_said
#print axioms roundFewests_holds
end Go.Proofs.YtohjpfkcahlfkaaGreat
