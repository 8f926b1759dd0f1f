/- How long each tower goes yet, which one stops first, and the errors, are what the document says. -/
import Derived.Test.YtohjpfkcahlfkaaRows
import Derived.Test.YtohjpfkcahlfkaaPdEvRoundDays
import Derived.Test.YtohjpfkcahlfkaaPdSymO
import Derived.Test.YtohjpfkcahlfkaaChecked
import Derived.ProofKit
import Derived.ShutString
import Derived.ChangeOld
set_option linter.unusedSimpArgs false
set_option linter.unusedVariables false
namespace Go.Proofs.Ytohjpfkcahlfkaa.Sy
open Go.ChangeShapes Go.WideShapes Go.ChangeAt Go.RowKit

theorem roundDays_op3 : Opens Try.prog 3 1 (fun x : Int => [D.v (.int .i64 x)]) (fun x => (Lit.int .i64 x).wf = true) := opens_int Try.underlying3 (by kernel_rfl)
theorem roundDays_op44 : Opens Try.prog 44 1 (fun x : Int => [D.v (.int .u16 x)]) (fun x => (Lit.int .u16 x).wf = true) := opens_int Try.underlying44 (by kernel_rfl)
theorem roundDays_op76 : Opens Try.prog 76 4 (fun x : Int × Int × Int × Int => [D.v (.int .u16 x.1), D.v (.int .i64 x.2.1), D.v (.int .i64 x.2.2.1), D.v (.int .i64 x.2.2.2)]) (fun x => (Lit.int .u16 x.1).wf = true ∧ (Lit.int .i64 x.2.1).wf = true ∧ (Lit.int .i64 x.2.2.1).wf = true ∧ (Lit.int .i64 x.2.2.2).wf = true) := (opens_struct Try.underlying76 (by kernel_rfl) (by kernel_rfl) (parts_cons roundDays_op44 (parts_cons roundDays_op3 (parts_cons roundDays_op3 (parts_cons roundDays_op3 parts_nil))))).map (fun p => (p.1, p.2.1, p.2.2.1, p.2.2.2.1)) (fun _ => rfl) (fun p h => ⟨h.1, h.2.1, h.2.2.1, h.2.2.2.1⟩)
theorem roundDays_op24 : Opens Try.prog 24 1 (fun x : (List (Int × Int × Int × Int)) => [D.s 4 (List.map (fun el76 : Int × Int × Int × Int => [D.v (.int .u16 el76.1), D.v (.int .i64 el76.2.1), D.v (.int .i64 el76.2.2.1), D.v (.int .i64 el76.2.2.2)]) x)]) (fun x => ((x).length ≤ maxLen ∧ ∀ el76 ∈ x, (Lit.int .u16 el76.1).wf = true ∧ (Lit.int .i64 el76.2.1).wf = true ∧ (Lit.int .i64 el76.2.2.1).wf = true ∧ (Lit.int .i64 el76.2.2.2).wf = true)) := opens_slice Try.underlying24 (by kernel_rfl) (by decide) roundDays_op76
theorem roundDays_op30 : Opens Try.prog 30 1 (fun x : (List Int) => [D.s 1 (List.map (fun el3 : Int => [D.v (.int .i64 el3)]) x)]) (fun x => ((x).length ≤ maxLen ∧ ∀ el3 ∈ x, (Lit.int .i64 el3).wf = true)) := opens_slice Try.underlying30 (by kernel_rfl) (by decide) roundDays_op3
theorem roundDays_op23 : Opens Try.prog 23 1 (fun x : (List ((List Int))) => [D.s 1 (List.map (fun el30 : (List Int) => [D.s 1 (List.map (fun el3 : Int => [D.v (.int .i64 el3)]) el30)]) x)]) (fun x => ((x).length ≤ maxLen ∧ ∀ el30 ∈ x, ((el30).length ≤ maxLen ∧ ∀ el3 ∈ el30, (Lit.int .i64 el3).wf = true))) := opens_slice Try.underlying23 (by kernel_rfl) (by decide) roundDays_op30
theorem roundDays_op46 : Opens Try.prog 46 5 (fun x : Int × Int × Int × Int × Int => [D.v (.int .i64 x.1), D.v (.int .i64 x.2.1), D.v (.int .u16 x.2.2.1), D.v (.int .i64 x.2.2.2.1), D.v (.int .i64 x.2.2.2.2)]) (fun x => (Lit.int .i64 x.1).wf = true ∧ (Lit.int .i64 x.2.1).wf = true ∧ (Lit.int .u16 x.2.2.1).wf = true ∧ (Lit.int .i64 x.2.2.2.1).wf = true ∧ (Lit.int .i64 x.2.2.2.2).wf = true) := (opens_struct Try.underlying46 (by kernel_rfl) (by kernel_rfl) (parts_cons roundDays_op3 (parts_cons roundDays_op3 (parts_cons roundDays_op44 (parts_cons roundDays_op3 (parts_cons roundDays_op3 parts_nil)))))).map (fun p => (p.1, p.2.1, p.2.2.1, p.2.2.2.1, p.2.2.2.2.1)) (fun _ => rfl) (fun p h => ⟨h.1, h.2.1, h.2.2.1, h.2.2.2.1, h.2.2.2.2.1⟩)
theorem roundDays_op22 : Opens Try.prog 22 1 (fun x : (List (Int × Int × Int × Int × Int)) => [D.s 5 (List.map (fun el46 : Int × Int × Int × Int × Int => [D.v (.int .i64 el46.1), D.v (.int .i64 el46.2.1), D.v (.int .u16 el46.2.2.1), D.v (.int .i64 el46.2.2.2.1), D.v (.int .i64 el46.2.2.2.2)]) x)]) (fun x => ((x).length ≤ maxLen ∧ ∀ el46 ∈ x, (Lit.int .i64 el46.1).wf = true ∧ (Lit.int .i64 el46.2.1).wf = true ∧ (Lit.int .u16 el46.2.2.1).wf = true ∧ (Lit.int .i64 el46.2.2.2.1).wf = true ∧ (Lit.int .i64 el46.2.2.2.2).wf = true)) := opens_slice Try.underlying22 (by kernel_rfl) (by decide) roundDays_op46
theorem roundDays_op26 : Opens Try.prog 26 5 (fun x : (List (Int × Int × Int × Int × Int)) × (List ((List Int))) × (List (Int × Int × Int × Int)) × Int × Int => [D.s 5 (List.map (fun el46 : Int × Int × Int × Int × Int => [D.v (.int .i64 el46.1), D.v (.int .i64 el46.2.1), D.v (.int .u16 el46.2.2.1), D.v (.int .i64 el46.2.2.2.1), D.v (.int .i64 el46.2.2.2.2)]) x.1), D.s 1 (List.map (fun el30 : (List Int) => [D.s 1 (List.map (fun el3 : Int => [D.v (.int .i64 el3)]) el30)]) x.2.1), D.s 4 (List.map (fun el76 : Int × Int × Int × Int => [D.v (.int .u16 el76.1), D.v (.int .i64 el76.2.1), D.v (.int .i64 el76.2.2.1), D.v (.int .i64 el76.2.2.2)]) x.2.2.1), D.v (.int .i64 x.2.2.2.1), D.v (.int .i64 x.2.2.2.2)]) (fun x => ((x.1).length ≤ maxLen ∧ ∀ el46 ∈ x.1, (Lit.int .i64 el46.1).wf = true ∧ (Lit.int .i64 el46.2.1).wf = true ∧ (Lit.int .u16 el46.2.2.1).wf = true ∧ (Lit.int .i64 el46.2.2.2.1).wf = true ∧ (Lit.int .i64 el46.2.2.2.2).wf = true) ∧ ((x.2.1).length ≤ maxLen ∧ ∀ el30 ∈ x.2.1, ((el30).length ≤ maxLen ∧ ∀ el3 ∈ el30, (Lit.int .i64 el3).wf = true)) ∧ ((x.2.2.1).length ≤ maxLen ∧ ∀ el76 ∈ x.2.2.1, (Lit.int .u16 el76.1).wf = true ∧ (Lit.int .i64 el76.2.1).wf = true ∧ (Lit.int .i64 el76.2.2.1).wf = true ∧ (Lit.int .i64 el76.2.2.2).wf = true) ∧ (Lit.int .i64 x.2.2.2.1).wf = true ∧ (Lit.int .i64 x.2.2.2.2).wf = true) := (opens_struct Try.underlying26 (by kernel_rfl) (by kernel_rfl) (parts_cons roundDays_op22 (parts_cons roundDays_op23 (parts_cons roundDays_op24 (parts_cons roundDays_op3 (parts_cons roundDays_op3 parts_nil)))))).map (fun p => (p.1, p.2.1, p.2.2.1, p.2.2.2.1, p.2.2.2.2.1)) (fun _ => rfl) (fun p h => ⟨h.1, h.2.1, h.2.2.1, h.2.2.2.1, h.2.2.2.2.1⟩)
theorem roundDays_op32 : Opens Try.prog 32 2 (fun x : Int × (List Int) => [D.v (.int .i64 x.1), D.s 1 (List.map (fun el3 : Int => [D.v (.int .i64 el3)]) x.2)]) (fun x => (Lit.int .i64 x.1).wf = true ∧ ((x.2).length ≤ maxLen ∧ ∀ el3 ∈ x.2, (Lit.int .i64 el3).wf = true)) := (opens_struct Try.underlying32 (by kernel_rfl) (by kernel_rfl) (parts_cons roundDays_op3 (parts_cons roundDays_op30 parts_nil))).map (fun p => (p.1, p.2.1)) (fun _ => rfl) (fun p h => ⟨h.1, h.2.1⟩)
theorem roundDays_op27 : Opens Try.prog 27 1 (fun x : (List (Int × (List Int))) => [D.s 2 (List.map (fun el32 : Int × (List Int) => [D.v (.int .i64 el32.1), D.s 1 (List.map (fun el3 : Int => [D.v (.int .i64 el3)]) el32.2)]) x)]) (fun x => ((x).length ≤ maxLen ∧ ∀ el32 ∈ x, (Lit.int .i64 el32.1).wf = true ∧ ((el32.2).length ≤ maxLen ∧ ∀ el3 ∈ el32.2, (Lit.int .i64 el3).wf = true))) := opens_slice Try.underlying27 (by kernel_rfl) (by decide) roundDays_op32
theorem roundDays_own : ownKnob Try.prog.godebug = none := by kernel_rfl
theorem roundDays_laid : laidOutB Try.prog = true := by kernel_rfl
set_option maxRecDepth 100000 in
set_option maxHeartbeats 1000000 in
theorem roundDays_lifted (os : Os) (started : os.Started) (H : Type) (enc : TypeId × Value → H) :
    ReturnsInHanded {} Try.checked os 3 .any (Rows.roundDaysSpec.pre6 enc Try.prog Try.f3 Rows.roundDaysRow.domain false) (Rows.roundDaysSpec.post enc Try.prog Try.f3 false true false false) := by
  refine returnsInHanded_of_change (C := Try.checked) roundDays_own started (by kernel_rfl) Try.func3
    (ChangeSpec.witness6 (enc := enc) (C := Try.checked) false ⟨#[], #[.agg #[.slice none 0 0, .slice none 0 0, .slice none 0 0, .int .i64 0, .int .i64 0], .slice none 0 0, .int .i64 0], []⟩ 8 (by kernel_rfl) (by kernel_rfl) (by kernel_rfl) (by kernel_rfl)) ?_
  intro W base args ds gs before hval0 hW hcnd _
  have hval : ∀ (j : Nat) t v, Try.f3.params[j]? = some t → args[j]? = some v → Value.okWide Try.prog W .any base t v := hval0
  have hW' := hW
  obtain ⟨p, q, hA0, hV, rfl, hfz, hnd⟩ := hW
  have hA : DataW.TrodAll enc Try.prog W 0 (fun _ => true) true Try.f3.params.toList args.toList ds p := hA0
  rw [Try.params3] at hA hval
  obtain ⟨v0, vs0, d0, ds0, p0, q0, hargs, rfl, rfl, h0, r0⟩ := trodAll_cons hA
  obtain ⟨v1, vs1, d1, ds1, p1, q1, rfl, rfl, rfl, h1, r1⟩ := trodAll_cons r0
  obtain ⟨v2, vs2, d2, ds2, p2, q2, rfl, rfl, rfl, h2, r2⟩ := trodAll_cons r1
  obtain ⟨rfl, rfl, rfl⟩ := trodAll_nil r2
  obtain rfl : args = #[v0, v1, v2] := by cases args; simp_all
  obtain ⟨rfl, rfl⟩ := trodVars_none hV
  have k0 := h0
  have lt0 : ∀ x ∈ p0, x.block < W.heap.size := by obtain ⟨m, hm⟩ := k0; exact DataW.trod_lt m _ _ _ hm
  have k1 := h1
  have lt1 : ∀ x ∈ p1, x.block < W.heap.size := by obtain ⟨m, hm⟩ := k1; exact DataW.trod_lt m _ _ _ hm
  have k2 := h2
  have lt2 : ∀ x ∈ p2, x.block < W.heap.size := by obtain ⟨m, hm⟩ := k2; exact DataW.trod_lt m _ _ _ hm
  obtain ⟨a0, cs0, w0, rfl, ok0⟩ := arg_agg (agg_struct Try.underlying26 (hval 0 26 v0 rfl rfl)) roundDays_op26 h0
  obtain ⟨u0_0, cs0_0, rfl, e0_0, ok0_0⟩ := okL_cons ok0
  obtain ⟨b0_0, n0_0, c0_0, rfl⟩ := reads_slice e0_0
  obtain ⟨u0_1, cs0_1, rfl, e0_1, ok0_1⟩ := okL_cons ok0_0
  obtain ⟨b0_1, n0_1, c0_1, rfl⟩ := reads_slice e0_1
  obtain ⟨u0_2, cs0_2, rfl, e0_2, ok0_2⟩ := okL_cons ok0_1
  obtain ⟨b0_2, n0_2, c0_2, rfl⟩ := reads_slice e0_2
  obtain ⟨u0_3, cs0_3, rfl, e0_3, ok0_3⟩ := okL_cons ok0_2
  cases e0_3
  obtain ⟨u0_4, cs0_4, rfl, e0_4, ok0_4⟩ := okL_cons ok0_3
  cases e0_4
  cases okL_nil ok0_4
  obtain ⟨a1, w1, rd1⟩ := arg_slice Try.underlying27 roundDays_op27 (hval 1 27 v1 rfl rfl) h1
  obtain ⟨b1, n1, c1, rfl⟩ := reads_slice rd1
  obtain ⟨a2, rfl, _, _, w2⟩ := open_int Try.underlying3 (hval 2 3 v2 rfl rfl) h2
  clear hA0 hval0
  obtain ⟨fuel, hev⟩ := roundDays_evx w0 w1 w2
  refine (FC.run (fc_law11_RoundDays hev) (fun k => if k = 0 then (.slice b0_0 n0_0 c0_0) else if k = 1 then (.slice b0_1 n0_1 c0_1) else if k = 2 then (.slice b0_2 n0_2 c0_2) else if k = 3 then (.slice b1 n1 c1) else .bool false) rfl (fun y hy => ?_)).mono fun e W' ⟨he, bel⟩ => ?_
  · simp only [List.mem_cons, List.not_mem_nil, or_false] at hy
    rcases hy with rfl | rfl | rfl | rfl
    · exact e0_0
    · exact e0_1
    · exact e0_2
    · exact rd1
  subst he
  exact ⟨_, rfl, _, _, _, [], _, [], hW', trodAll_mk1 (shut_bool Try.underlying4 _), (trodAll_cons_mk (Below.trod roundDays_laid (by kernel_rfl) (of_decide_eq_true (by kernel_rfl)) k0 bel lt0) (trodAll_cons_mk (Below.trod roundDays_laid (by kernel_rfl) (of_decide_eq_true (by kernel_rfl)) k1 bel lt1) (trodAll_cons_mk (Below.trod roundDays_laid (by kernel_rfl) (of_decide_eq_true (by kernel_rfl)) k2 bel lt2) trodAll_mk0))), rfl, bel.frame _, fun h => by cases h⟩

theorem roundDays_q1 : Try.checked.prog.funcNamed Rows.roundDaysRow.func = some 3 := by kernel_rfl
theorem roundDays_and {a b : Bool} (ha : a = true) (hb : b = true) : (a && b) = true := by rw [ha, hb]; rfl
set_option maxHeartbeats 4000000 in
theorem roundDays_q2 : joinedFacts Try.checked.prog 3 Try.f3 Rows.roundDaysSpec Rows.roundDaysRow = true := by
  unfold joinedFacts
  exact roundDays_and (roundDays_and (roundDays_and (roundDays_and (roundDays_and (roundDays_and (roundDays_and (roundDays_and (roundDays_and (roundDays_and (roundDays_and (roundDays_and (roundDays_and (roundDays_and (roundDays_and (roundDays_and (roundDays_and (roundDays_and (roundDays_and (roundDays_and (roundDays_and (roundDays_and (roundDays_and (roundDays_and (roundDays_and (roundDays_and (roundDays_and (roundDays_and (roundDays_and (roundDays_and (roundDays_and (by as_aux_lemma => kernel_rfl) (by as_aux_lemma => kernel_rfl)) (by as_aux_lemma => kernel_rfl)) (by as_aux_lemma => kernel_rfl)) (by as_aux_lemma => kernel_rfl)) (by as_aux_lemma => kernel_rfl)) (by as_aux_lemma => kernel_rfl)) (by as_aux_lemma => kernel_rfl)) (by as_aux_lemma => kernel_rfl)) (by as_aux_lemma => kernel_rfl)) (by as_aux_lemma => kernel_rfl)) (by as_aux_lemma => kernel_rfl)) (by as_aux_lemma => kernel_rfl)) (by as_aux_lemma => kernel_rfl)) (by as_aux_lemma => kernel_rfl)) (by as_aux_lemma => kernel_rfl)) (by as_aux_lemma => kernel_rfl)) (by as_aux_lemma => kernel_rfl)) (by as_aux_lemma => kernel_rfl)) (by as_aux_lemma => kernel_rfl)) (by as_aux_lemma => kernel_rfl)) (by as_aux_lemma => kernel_rfl)) (by as_aux_lemma => kernel_rfl)) (by as_aux_lemma => kernel_rfl)) (by as_aux_lemma => kernel_rfl)) (by as_aux_lemma => kernel_rfl)) (by as_aux_lemma => kernel_rfl)) (by as_aux_lemma => kernel_rfl)) (by as_aux_lemma => kernel_rfl)) (by as_aux_lemma => kernel_rfl)) (by as_aux_lemma => kernel_rfl)) (by as_aux_lemma => kernel_rfl)
theorem roundDays_q3 : Try.f3.isInstance Try.checked.prog Rows.roundDaysRow.origin Rows.roundDaysRow.targs := (of_decide_eq_true (by kernel_rfl))
theorem roundDays_q4 : Try.f3.isWrapper Try.checked.prog Rows.roundDaysRow.wrapper Rows.roundDaysRow.mainSum := (by unfold Func.isWrapper; first | (rw [if_pos (by decide +kernel)]; kernel_rfl) | (rw [if_neg (by decide +kernel)]; exact ⟨rfl, rfl⟩))
theorem roundDays_q5 : ∀ os : Os, os.Started → ∀ (H : Type) (enc : TypeId × Value → H), (∀ a b, enc a = enc b → a = b) →
    ReturnsInHanded Rows.roundDaysRow.assume Try.checked os 3 .any (Rows.roundDaysRow.pre enc Try.checked.prog Try.f3 (OpenSpec.ofChange Rows.roundDaysSpec)) (Rows.roundDaysSpec.post enc Try.checked.prog Try.f3 Rows.roundDaysRow.apart Rows.roundDaysRow.fresh Rows.roundDaysRow.handsOn Rows.roundDaysRow.again) := fun os started H enc _ => roundDays_lifted os started H enc
theorem roundDays_said : Rows.RoundDaysSaid :=
  OpenClaim.holds_of_wide 3 Try.f3 rfl rfl rfl rfl rfl rfl rfl ⟨rfl, rfl, rfl, rfl, rfl⟩ rfl rfl rfl rfl rfl roundDays_q1 Try.func3 roundDays_q2 roundDays_q3 roundDays_q4 roundDays_q5
end Go.Proofs.Ytohjpfkcahlfkaa.Sy
namespace Go.Proofs.Ytohjpfkcahlfkaa
theorem roundDays_holds : Rows.RoundDaysSaid := Sy.roundDays_said
#print axioms roundDays_holds
end Go.Proofs.Ytohjpfkcahlfkaa
