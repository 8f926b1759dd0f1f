/- If a prime is missing there is no exact train. -/
import Derived.Test.YtabjhlfgcmmbfaaRows
import Derived.Test.YtabjhlfgcmmbfaaEvTrainPrimes
import Derived.Test.YtabjhlfgcmmbfaaSymO
import Derived.Test.YtabjhlfgcmmbfaaChecked
import Derived.ProofKit
import Derived.ShutString
import Derived.ChangeOld
set_option linter.unusedSimpArgs false
set_option linter.unusedVariables false
namespace Go.Proofs.Ytabjhlfgcmmbfaa.Sy
open Go.ChangeShapes Go.WideShapes Go.ChangeAt Go.RowKit

theorem trainPrimes_op5 : Opens Try.prog 5 1 (fun x : Int => [D.v (.int .u8 x)]) (fun x => (Lit.int .u8 x).wf = true) := opens_int Try.underlying5 (by kernel_rfl)
theorem trainPrimes_op62 : Opens Try.prog 62 1 (fun x : (List Int) => [D.s 1 (List.map (fun el5 : Int => [D.v (.int .u8 el5)]) x)]) (fun x => ((x).length ≤ maxLen ∧ ∀ el5 ∈ x, (Lit.int .u8 el5).wf = true)) := opens_slice Try.underlying62 (by kernel_rfl) (by decide) trainPrimes_op5
theorem trainPrimes_op64 : Opens Try.prog 64 2 (fun x : (List Int) × (List Int) => [D.s 1 (List.map (fun el5 : Int => [D.v (.int .u8 el5)]) x.1), D.s 1 (List.map (fun el5 : Int => [D.v (.int .u8 el5)]) x.2)]) (fun x => ((x.1).length ≤ maxLen ∧ ∀ el5 ∈ x.1, (Lit.int .u8 el5).wf = true) ∧ ((x.2).length ≤ maxLen ∧ ∀ el5 ∈ x.2, (Lit.int .u8 el5).wf = true)) := (opens_struct Try.underlying64 (by kernel_rfl) (by kernel_rfl) (parts_cons trainPrimes_op62 (parts_cons trainPrimes_op62 parts_nil))).map (fun p => (p.1, p.2.1)) (fun _ => rfl) (fun p h => ⟨h.1, h.2.1⟩)
theorem trainPrimes_op72 : Opens Try.prog 72 1 (fun x : Int => [D.v (.int .u16 x)]) (fun x => (Lit.int .u16 x).wf = true) := opens_int Try.underlying72 (by kernel_rfl)
theorem trainPrimes_op73 : Opens Try.prog 73 2 (fun x : Int × Int => [D.v (.int .u16 x.1), D.v (.int .u16 x.2)]) (fun x => (Lit.int .u16 x.1).wf = true ∧ (Lit.int .u16 x.2).wf = true) := (opens_array (m := 2) (s := 1) Try.underlying73 (by kernel_rfl) (by kernel_rfl) (parts_cons trainPrimes_op72 (parts_cons trainPrimes_op72 parts_nil))).map (fun p => (p.1, p.2.1)) (fun _ => rfl) (fun p h => ⟨h.1, h.2.1⟩)
theorem trainPrimes_own : ownKnob Try.prog.godebug = none := by kernel_rfl
theorem trainPrimes_laid : laidOutB Try.prog = true := by kernel_rfl
set_option maxRecDepth 100000 in
set_option maxHeartbeats 1000000 in
theorem trainPrimes_lifted (os : Os) (started : os.Started) (H : Type) (enc : TypeId × Value → H) :
    ReturnsInHanded {} Try.checked os 8 .any (Rows.trainPrimesSpec.pre6 enc Try.prog Try.f8 Rows.trainPrimesRow.domain false) (Rows.trainPrimesSpec.post enc Try.prog Try.f8 false true false false) := by
  refine returnsInHanded_of_change (C := Try.checked) trainPrimes_own started (by kernel_rfl) Try.func8
    (ChangeSpec.witness6 (enc := enc) (C := Try.checked) false ⟨#[], #[.agg #[.slice none 0 0, .slice none 0 0], .agg #[.int .u16 0, .int .u16 0], .slice none 0 0], []⟩ 8 (by kernel_rfl) (by kernel_rfl) (by kernel_rfl) (by kernel_rfl)) ?_
  intro W base args ds gs before hval0 hW hcnd _
  have hval : ∀ (j : Nat) t v, Try.f8.params[j]? = some t → args[j]? = some v → Value.okWide Try.prog W .any base t v := hval0
  have hW' := hW
  obtain ⟨p, q, hA0, hV, rfl, hfz, hnd⟩ := hW
  have hA : DataW.TrodAll enc Try.prog W 0 (fun _ => true) true Try.f8.params.toList args.toList ds p := hA0
  rw [Try.params8] at hA hval
  obtain ⟨v0, vs0, d0, ds0, p0, q0, hargs, rfl, rfl, h0, r0⟩ := trodAll_cons hA
  obtain ⟨v1, vs1, d1, ds1, p1, q1, rfl, rfl, rfl, h1, r1⟩ := trodAll_cons r0
  obtain ⟨v2, vs2, d2, ds2, p2, q2, rfl, rfl, rfl, h2, r2⟩ := trodAll_cons r1
  obtain ⟨rfl, rfl, rfl⟩ := trodAll_nil r2
  obtain rfl : args = #[v0, v1, v2] := by cases args; simp_all
  obtain ⟨rfl, rfl⟩ := trodVars_none hV
  have k0 := h0
  have lt0 : ∀ x ∈ p0, x.block < W.heap.size := by obtain ⟨m, hm⟩ := k0; exact DataW.trod_lt m _ _ _ hm
  have k1 := h1
  have lt1 : ∀ x ∈ p1, x.block < W.heap.size := by obtain ⟨m, hm⟩ := k1; exact DataW.trod_lt m _ _ _ hm
  have k2 := h2
  have lt2 : ∀ x ∈ p2, x.block < W.heap.size := by obtain ⟨m, hm⟩ := k2; exact DataW.trod_lt m _ _ _ hm
  obtain ⟨a0, cs0, w0, rfl, ok0⟩ := arg_agg (agg_struct Try.underlying64 (hval 0 64 v0 rfl rfl)) trainPrimes_op64 h0
  obtain ⟨u0_0, cs0_0, rfl, e0_0, ok0_0⟩ := okL_cons ok0
  obtain ⟨b0_0, n0_0, c0_0, rfl⟩ := reads_slice e0_0
  obtain ⟨u0_1, cs0_1, rfl, e0_1, ok0_1⟩ := okL_cons ok0_0
  obtain ⟨b0_1, n0_1, c0_1, rfl⟩ := reads_slice e0_1
  cases okL_nil ok0_1
  obtain ⟨a1, cs1, w1, rfl, ok1⟩ := arg_agg (agg_array Try.underlying73 (hval 1 73 v1 rfl rfl)) trainPrimes_op73 h1
  obtain ⟨u1_0, cs1_0, rfl, e1_0, ok1_0⟩ := okL_cons ok1
  cases e1_0
  obtain ⟨u1_1, cs1_1, rfl, e1_1, ok1_1⟩ := okL_cons ok1_0
  cases e1_1
  cases okL_nil ok1_1
  obtain ⟨a2, w2, rd2⟩ := arg_slice Try.underlying62 trainPrimes_op62 (hval 2 62 v2 rfl rfl) h2
  obtain ⟨b2, n2, c2, rfl⟩ := reads_slice rd2
  clear hA0 hval0
  obtain ⟨fuel, hev⟩ := trainPrimes_evx w0 w1 w2
  refine (FC.run (fc_law01_TrainPrimes hev) (fun k => if k = 0 then (.slice b0_0 n0_0 c0_0) else if k = 1 then (.slice b0_1 n0_1 c0_1) else if k = 2 then (.slice b2 n2 c2) else .bool false) rfl (fun y hy => ?_)).mono fun e W' ⟨he, bel⟩ => ?_
  · simp only [List.mem_cons, List.not_mem_nil, or_false] at hy
    rcases hy with rfl | rfl | rfl
    · exact e0_0
    · exact e0_1
    · exact rd2
  subst he
  exact ⟨_, rfl, _, _, _, [], _, [], hW', trodAll_mk1 (shut_bool Try.underlying4 _), (trodAll_cons_mk (Below.trod trainPrimes_laid (by kernel_rfl) (of_decide_eq_true (by kernel_rfl)) k0 bel lt0) (trodAll_cons_mk (Below.trod trainPrimes_laid (by kernel_rfl) (of_decide_eq_true (by kernel_rfl)) k1 bel lt1) (trodAll_cons_mk (Below.trod trainPrimes_laid (by kernel_rfl) (of_decide_eq_true (by kernel_rfl)) k2 bel lt2) trodAll_mk0))), rfl, bel.frame _, fun h => by cases h⟩

theorem trainPrimes_q1 : Try.checked.prog.funcNamed Rows.trainPrimesRow.func = some 8 := by kernel_rfl
theorem trainPrimes_and {a b : Bool} (ha : a = true) (hb : b = true) : (a && b) = true := by rw [ha, hb]; rfl
set_option maxHeartbeats 4000000 in
theorem trainPrimes_q2 : joinedFacts Try.checked.prog 8 Try.f8 Rows.trainPrimesSpec Rows.trainPrimesRow = true := by
  unfold joinedFacts
  exact trainPrimes_and (trainPrimes_and (trainPrimes_and (trainPrimes_and (trainPrimes_and (trainPrimes_and (trainPrimes_and (trainPrimes_and (trainPrimes_and (trainPrimes_and (trainPrimes_and (trainPrimes_and (trainPrimes_and (trainPrimes_and (trainPrimes_and (trainPrimes_and (trainPrimes_and (trainPrimes_and (trainPrimes_and (trainPrimes_and (trainPrimes_and (trainPrimes_and (trainPrimes_and (trainPrimes_and (trainPrimes_and (trainPrimes_and (trainPrimes_and (trainPrimes_and (trainPrimes_and (trainPrimes_and (trainPrimes_and (by as_aux_lemma => kernel_rfl) (by as_aux_lemma => kernel_rfl)) (by as_aux_lemma => kernel_rfl)) (by as_aux_lemma => kernel_rfl)) (by as_aux_lemma => kernel_rfl)) (by as_aux_lemma => kernel_rfl)) (by as_aux_lemma => kernel_rfl)) (by as_aux_lemma => kernel_rfl)) (by as_aux_lemma => kernel_rfl)) (by as_aux_lemma => kernel_rfl)) (by as_aux_lemma => kernel_rfl)) (by as_aux_lemma => kernel_rfl)) (by as_aux_lemma => kernel_rfl)) (by as_aux_lemma => kernel_rfl)) (by as_aux_lemma => kernel_rfl)) (by as_aux_lemma => kernel_rfl)) (by as_aux_lemma => kernel_rfl)) (by as_aux_lemma => kernel_rfl)) (by as_aux_lemma => kernel_rfl)) (by as_aux_lemma => kernel_rfl)) (by as_aux_lemma => kernel_rfl)) (by as_aux_lemma => kernel_rfl)) (by as_aux_lemma => kernel_rfl)) (by as_aux_lemma => kernel_rfl)) (by as_aux_lemma => kernel_rfl)) (by as_aux_lemma => kernel_rfl)) (by as_aux_lemma => kernel_rfl)) (by as_aux_lemma => kernel_rfl)) (by as_aux_lemma => kernel_rfl)) (by as_aux_lemma => kernel_rfl)) (by as_aux_lemma => kernel_rfl)) (by as_aux_lemma => kernel_rfl)
theorem trainPrimes_q3 : Try.f8.isInstance Try.checked.prog Rows.trainPrimesRow.origin Rows.trainPrimesRow.targs := (of_decide_eq_true (by kernel_rfl))
theorem trainPrimes_q4 : Try.f8.isWrapper Try.checked.prog Rows.trainPrimesRow.wrapper Rows.trainPrimesRow.mainSum := (by unfold Func.isWrapper; first | (rw [if_pos (by decide +kernel)]; kernel_rfl) | (rw [if_neg (by decide +kernel)]; exact ⟨rfl, rfl⟩))
theorem trainPrimes_q5 : ∀ os : Os, os.Started → ∀ (H : Type) (enc : TypeId × Value → H), (∀ a b, enc a = enc b → a = b) →
    ReturnsInHanded Rows.trainPrimesRow.assume Try.checked os 8 .any (Rows.trainPrimesRow.pre enc Try.checked.prog Try.f8 (OpenSpec.ofChange Rows.trainPrimesSpec)) (Rows.trainPrimesSpec.post enc Try.checked.prog Try.f8 Rows.trainPrimesRow.apart Rows.trainPrimesRow.fresh Rows.trainPrimesRow.handsOn Rows.trainPrimesRow.again) := fun os started H enc _ => trainPrimes_lifted os started H enc
theorem trainPrimes_said : Rows.TrainPrimesSaid :=
  OpenClaim.holds_of_wide 8 Try.f8 rfl rfl rfl rfl rfl rfl rfl ⟨rfl, rfl, rfl, rfl, rfl⟩ rfl rfl rfl rfl rfl trainPrimes_q1 Try.func8 trainPrimes_q2 trainPrimes_q3 trainPrimes_q4 trainPrimes_q5
end Go.Proofs.Ytabjhlfgcmmbfaa.Sy
namespace Go.Proofs.Ytabjhlfgcmmbfaa
theorem trainPrimes_holds : Rows.TrainPrimesSaid := Sy.trainPrimes_said
#print axioms trainPrimes_holds
end Go.Proofs.Ytabjhlfgcmmbfaa
