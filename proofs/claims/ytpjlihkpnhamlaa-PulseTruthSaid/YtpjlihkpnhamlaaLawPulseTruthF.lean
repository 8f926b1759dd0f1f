/- THE TRUTH: Fewest says at most how many faults there were: at every input. -/
import Derived.Test.YtpjlihkpnhamlaaRows
import Derived.Test.YtpjlihkpnhamlaaChecked
import Derived.ShutString
import Derived.ChangeOld
import Derived.Test.YtpjlihkpnhamlaaLawPulseAgainM1
import Derived.Test.YtpjlihkpnhamlaaLawPulseAgainM2
import Derived.Test.YtpjlihkpnhamlaaLawPulseAgainM3
import Derived.Test.YtpjlihkpnhamlaaLawPulseAgainM4
import Derived.Test.YtpjlihkpnhamlaaLawPulseAgainM5
import Derived.Test.YtpjlihkpnhamlaaPTM1
set_option linter.unusedSimpArgs false
set_option linter.unusedVariables false
namespace Go.Proofs.Ytpjlihkpnhamlaa.Sy
open Go.ChangeShapes Go.WideShapes Go.ChangeAt Go.RowKit

theorem pulseTruth_op5 : Opens Try.prog 5 1 (fun x : Int => [D.v (.int .u8 x)]) (fun x => (Lit.int .u8 x).wf = true) := opens_int Try.underlying5 (by kernel_rfl)
theorem pulseTruth_op60 : Opens Try.prog 60 1 (fun x : (List Int) => [D.s 1 (List.map (fun el5 : Int => [D.v (.int .u8 el5)]) x)]) (fun x => ((x).length ≤ maxLen ∧ ∀ el5 ∈ x, (Lit.int .u8 el5).wf = true)) := opens_slice Try.underlying60 (by kernel_rfl) (by decide) pulseTruth_op5
theorem pulseTruth_op69 : Opens Try.prog 69 1 (fun x : Int => [D.v (.int .u16 x)]) (fun x => (Lit.int .u16 x).wf = true) := opens_int Try.underlying69 (by kernel_rfl)
theorem pulseTruth_op74 : Opens Try.prog 74 2 (fun x : Int × Int => [D.v (.int .u16 x.1), D.v (.int .u16 x.2)]) (fun x => (Lit.int .u16 x.1).wf = true ∧ (Lit.int .u16 x.2).wf = true) := (opens_array (m := 2) (s := 1) Try.underlying74 (by kernel_rfl) (by kernel_rfl) (parts_cons pulseTruth_op69 (parts_cons pulseTruth_op69 parts_nil))).map (fun p => (p.1, p.2.1)) (fun _ => rfl) (fun p h => ⟨h.1, h.2.1⟩)
theorem pulseTruth_op59 : Opens Try.prog 59 3 (fun x : Int × Int × Int => [D.v (.int .u8 x.1), D.v (.int .u8 x.2.1), D.v (.int .u8 x.2.2)]) (fun x => (Lit.int .u8 x.1).wf = true ∧ (Lit.int .u8 x.2.1).wf = true ∧ (Lit.int .u8 x.2.2).wf = true) := (opens_struct Try.underlying59 (by kernel_rfl) (by kernel_rfl) (parts_cons pulseTruth_op5 (parts_cons pulseTruth_op5 (parts_cons pulseTruth_op5 parts_nil)))).map (fun p => (p.1, p.2.1, p.2.2.1)) (fun _ => rfl) (fun p h => ⟨h.1, h.2.1, h.2.2.1⟩)
theorem pulseTruth_op76 : Opens Try.prog 76 7 (fun x : Int × Int × Int × Int × Int × (List Int) × (List Int) => [D.v (.int .u8 x.1), D.v (.int .u8 x.2.1), D.v (.int .u8 x.2.2.1), D.v (.int .u16 x.2.2.2.1), D.v (.int .u16 x.2.2.2.2.1), D.s 1 (List.map (fun el5 : Int => [D.v (.int .u8 el5)]) x.2.2.2.2.2.1), D.s 1 (List.map (fun el5 : Int => [D.v (.int .u8 el5)]) x.2.2.2.2.2.2)]) (fun x => (Lit.int .u8 x.1).wf = true ∧ (Lit.int .u8 x.2.1).wf = true ∧ (Lit.int .u8 x.2.2.1).wf = true ∧ (Lit.int .u16 x.2.2.2.1).wf = true ∧ (Lit.int .u16 x.2.2.2.2.1).wf = true ∧ ((x.2.2.2.2.2.1).length ≤ maxLen ∧ ∀ el5 ∈ x.2.2.2.2.2.1, (Lit.int .u8 el5).wf = true) ∧ ((x.2.2.2.2.2.2).length ≤ maxLen ∧ ∀ el5 ∈ x.2.2.2.2.2.2, (Lit.int .u8 el5).wf = true)) := (opens_struct Try.underlying76 (by kernel_rfl) (by kernel_rfl) (parts_cons pulseTruth_op59 (parts_cons pulseTruth_op74 (parts_cons pulseTruth_op60 (parts_cons pulseTruth_op60 parts_nil))))).map (fun p => (p.1.1, p.1.2.1, p.1.2.2, p.2.1.1, p.2.1.2, p.2.2.1, p.2.2.2.1)) (fun _ => rfl) (fun p h => ⟨h.1.1, h.1.2.1, h.1.2.2, h.2.1.1, h.2.1.2, h.2.2.1, h.2.2.2.1⟩)
theorem pulseTruth_own : ownKnob Try.prog.godebug = none := by kernel_rfl
theorem pulseTruth_laid : laidOutB Try.prog = true := by kernel_rfl
set_option maxRecDepth 100000 in
set_option maxHeartbeats 1000000 in
theorem pulseTruth_lifted (os : Os) (started : os.Started) (H : Type) (enc : TypeId × Value → H) :
    ReturnsInHanded {} Try.checked os 10 .any (Rows.pulseTruthSpec.pre6 enc Try.prog Try.f10 Rows.pulseTruthRow.domain false) (Rows.pulseTruthSpec.post enc Try.prog Try.f10 false true false false) := by
  refine returnsInHanded_of_change (C := Try.checked) pulseTruth_own started (by kernel_rfl) Try.func10
    (ChangeSpec.witness6 (enc := enc) (C := Try.checked) false ⟨#[], #[.agg #[.int .u8 0, .int .u8 0, .int .u8 0, .int .u16 0, .int .u16 0, .slice none 0 0, .slice none 0 0]], []⟩ 8 (by kernel_rfl) (by kernel_rfl) (by kernel_rfl) (by kernel_rfl)) ?_
  intro W base args ds gs before hval0 hW hcnd _
  have hval : ∀ (j : Nat) t v, Try.f10.params[j]? = some t → args[j]? = some v → Value.okWide Try.prog W .any base t v := hval0
  have hW' := hW
  obtain ⟨p, q, hA0, hV, rfl, hfz, hnd⟩ := hW
  have hA : DataW.TrodAll enc Try.prog W 0 (fun _ => true) true Try.f10.params.toList args.toList ds p := hA0
  rw [Try.params10] at hA hval
  obtain ⟨v0, vs0, d0, ds0, p0, q0, hargs, rfl, rfl, h0, r0⟩ := trodAll_cons hA
  obtain ⟨rfl, rfl, rfl⟩ := trodAll_nil r0
  obtain rfl : args = #[v0] := by cases args; simp_all
  obtain ⟨rfl, rfl⟩ := trodVars_none hV
  have k0 := h0
  have lt0 : ∀ x ∈ p0, x.block < W.heap.size := by obtain ⟨m, hm⟩ := k0; exact DataW.trod_lt m _ _ _ hm
  obtain ⟨a0, cs0, w0, rfl, ok0⟩ := arg_agg (agg_struct Try.underlying76 (hval 0 76 v0 rfl rfl)) pulseTruth_op76 h0
  obtain ⟨u0_0, cs0_0, rfl, e0_0, ok0_0⟩ := okL_cons ok0
  cases e0_0
  obtain ⟨u0_1, cs0_1, rfl, e0_1, ok0_1⟩ := okL_cons ok0_0
  cases e0_1
  obtain ⟨u0_2, cs0_2, rfl, e0_2, ok0_2⟩ := okL_cons ok0_1
  cases e0_2
  obtain ⟨u0_3, cs0_3, rfl, e0_3, ok0_3⟩ := okL_cons ok0_2
  cases e0_3
  obtain ⟨u0_4, cs0_4, rfl, e0_4, ok0_4⟩ := okL_cons ok0_3
  cases e0_4
  obtain ⟨u0_5, cs0_5, rfl, e0_5, ok0_5⟩ := okL_cons ok0_4
  obtain ⟨b0_5, n0_5, c0_5, rfl⟩ := reads_slice e0_5
  obtain ⟨u0_6, cs0_6, rfl, e0_6, ok0_6⟩ := okL_cons ok0_5
  obtain ⟨b0_6, n0_6, c0_6, rfl⟩ := reads_slice e0_6
  cases okL_nil ok0_6
  clear hA0 hval0
  obtain ⟨fuel, hev⟩ := truth_ev w0
  refine (FC.run (fc_law09_PulseTruth hev) (fun k => if k = 0 then (.slice b0_5 n0_5 c0_5) else if k = 1 then (.slice b0_6 n0_6 c0_6) else .bool false) rfl (fun y hy => ?_)).mono fun e W' ⟨he, bel⟩ => ?_
  · simp only [List.mem_cons, List.not_mem_nil, or_false] at hy
    rcases hy with rfl | rfl
    · exact e0_5
    · exact e0_6
  subst he
  exact ⟨_, rfl, _, _, _, [], _, [], hW', trodAll_mk1 (shut_bool Try.underlying4 _), (trodAll_cons_mk (Below.trod pulseTruth_laid (by kernel_rfl) (of_decide_eq_true (by kernel_rfl)) k0 bel lt0) trodAll_mk0), rfl, bel.frame _, fun h => by cases h⟩

theorem pulseTruth_said : Rows.PulseTruthSaid :=
  OpenClaim.holds_of_wide 10 Try.f10 rfl rfl rfl rfl rfl rfl rfl ⟨rfl, rfl, rfl, rfl, rfl⟩ rfl rfl rfl rfl rfl (by kernel_rfl) Try.func10 (by kernel_rfl)
    (of_decide_eq_true (by kernel_rfl)) (by unfold Func.isWrapper; first | (rw [if_pos (by decide +kernel)]; kernel_rfl) | (rw [if_neg (by decide +kernel)]; exact ⟨rfl, rfl⟩))
    (fun os started H enc _ => pulseTruth_lifted os started H enc)
end Go.Proofs.Ytpjlihkpnhamlaa.Sy
namespace Go.Proofs.Ytpjlihkpnhamlaa
theorem pulseTruth_holds : Rows.PulseTruthSaid := Sy.pulseTruth_said
#print axioms pulseTruth_holds
end Go.Proofs.Ytpjlihkpnhamlaa
