/- The nearest train, for inputs of bulk at most 1048576. -/
import Derived.Test.YtabjhlfgcmmbfaaRows
import Derived.Test.YtabjhlfgcmmbfaaEvTrainNearest
import Derived.Test.YtabjhlfgcmmbfaaSymUp
import Derived.Test.YtabjhlfgcmmbfaaSymO
import Derived.Test.YtabjhlfgcmmbfaaChecked
import Derived.ProofKit
import Derived.ShutString
import Derived.ChangeOld
import Derived.JoinedCond
set_option linter.unusedSimpArgs false
set_option linter.unusedVariables false
namespace Go.Proofs.Ytabjhlfgcmmbfaa.Sy
open Go.ChangeShapes Go.WideShapes Go.ChangeAt Go.RowKit

theorem trainNearestUpto_op5 : Opens Try.prog 5 1 (fun x : Int => [D.v (.int .u8 x)]) (fun x => (Lit.int .u8 x).wf = true) := opens_int Try.underlying5 (by kernel_rfl)
theorem trainNearestUpto_op62 : Opens Try.prog 62 1 (fun x : (List Int) => [D.s 1 (List.map (fun el5 : Int => [D.v (.int .u8 el5)]) x)]) (fun x => ((x).length ≤ maxLen ∧ ∀ el5 ∈ x, (Lit.int .u8 el5).wf = true)) := opens_slice Try.underlying62 (by kernel_rfl) (by decide) trainNearestUpto_op5
theorem trainNearestUpto_op64 : Opens Try.prog 64 2 (fun x : (List Int) × (List Int) => [D.s 1 (List.map (fun el5 : Int => [D.v (.int .u8 el5)]) x.1), D.s 1 (List.map (fun el5 : Int => [D.v (.int .u8 el5)]) x.2)]) (fun x => ((x.1).length ≤ maxLen ∧ ∀ el5 ∈ x.1, (Lit.int .u8 el5).wf = true) ∧ ((x.2).length ≤ maxLen ∧ ∀ el5 ∈ x.2, (Lit.int .u8 el5).wf = true)) := (opens_struct Try.underlying64 (by kernel_rfl) (by kernel_rfl) (parts_cons trainNearestUpto_op62 (parts_cons trainNearestUpto_op62 parts_nil))).map (fun p => (p.1, p.2.1)) (fun _ => rfl) (fun p h => ⟨h.1, h.2.1⟩)
theorem trainNearestUpto_op72 : Opens Try.prog 72 1 (fun x : Int => [D.v (.int .u16 x)]) (fun x => (Lit.int .u16 x).wf = true) := opens_int Try.underlying72 (by kernel_rfl)
theorem trainNearestUpto_op73 : Opens Try.prog 73 2 (fun x : Int × Int => [D.v (.int .u16 x.1), D.v (.int .u16 x.2)]) (fun x => (Lit.int .u16 x.1).wf = true ∧ (Lit.int .u16 x.2).wf = true) := (opens_array (m := 2) (s := 1) Try.underlying73 (by kernel_rfl) (by kernel_rfl) (parts_cons trainNearestUpto_op72 (parts_cons trainNearestUpto_op72 parts_nil))).map (fun p => (p.1, p.2.1)) (fun _ => rfl) (fun p h => ⟨h.1, h.2.1⟩)
theorem trainNearestUpto_own : ownKnob Try.prog.godebug = none := by kernel_rfl
theorem trainNearestUpto_laid : laidOutB Try.prog = true := by kernel_rfl
set_option maxRecDepth 100000 in
set_option maxHeartbeats 1000000 in
theorem trainNearestUpto_lifted (os : Os) (started : os.Started) (H : Type) (enc : TypeId × Value → H) (F : Stop.Interp) :
    ReturnsInHanded {} Try.checked os 11 .any ((Rows.OpenSpec.upto Rows.trainNearestSpec).pre6 enc Try.prog Try.f11 Rows.trainNearestUptoRow.domain false) (((Rows.OpenSpec.upto Rows.trainNearestSpec).at F).post enc Try.prog Try.f11 false true false false) := by
  refine returnsInHanded_of_cond (C := Try.checked) (s := Rows.OpenSpec.upto Rows.trainNearestSpec) (k := Rows.uptoSmall) rfl trainNearestUpto_own started (by kernel_rfl) Try.func11
    (OpenSpec.witness (enc := enc) (C := Try.checked) (s := Rows.OpenSpec.upto Rows.trainNearestSpec) (k := Rows.uptoSmall) rfl false ⟨#[], #[.agg #[.slice none 0 0, .slice none 0 0], .agg #[.int .u16 0, .int .u16 0], .slice none 0 0], []⟩ 8 (by kernel_rfl) (by kernel_rfl) (by kernel_rfl) (x := ([.agg [.nil, .nil], .agg [.lit (.int .u16 0), .lit (.int .u16 0)], .nil], [], [])) (by kernel_rfl) rfl (by kernel_rfl)) ?_
  intro W base args ds gs before hval0 hW _ hkb _
  have hval : ∀ (j : Nat) t v, Try.f11.params[j]? = some t → args[j]? = some v → Value.okWide Try.prog W .any base t v := hval0
  have hW' := hW
  obtain ⟨p, q, hA0, hV, rfl, hfz, hnd⟩ := hW
  have hA : DataW.TrodAll enc Try.prog W 0 (fun _ => true) true Try.f11.params.toList args.toList ds p := hA0
  rw [Try.params11] at hA hval
  obtain ⟨v0, vs0, d0, ds0, p0, q0, hargs, rfl, rfl, h0, r0⟩ := trodAll_cons hA
  obtain ⟨v1, vs1, d1, ds1, p1, q1, rfl, rfl, rfl, h1, r1⟩ := trodAll_cons r0
  obtain ⟨v2, vs2, d2, ds2, p2, q2, rfl, rfl, rfl, h2, r2⟩ := trodAll_cons r1
  obtain ⟨rfl, rfl, rfl⟩ := trodAll_nil r2
  obtain rfl : args = #[v0, v1, v2] := by cases args; simp_all
  obtain ⟨rfl, rfl⟩ := trodVars_none hV
  have k0 := h0
  have lt0 : ∀ x ∈ p0, x.block < W.heap.size := by obtain ⟨m, hm⟩ := k0; exact DataW.trod_lt m _ _ _ hm
  have k1 := h1
  have lt1 : ∀ x ∈ p1, x.block < W.heap.size := by obtain ⟨m, hm⟩ := k1; exact DataW.trod_lt m _ _ _ hm
  have k2 := h2
  have lt2 : ∀ x ∈ p2, x.block < W.heap.size := by obtain ⟨m, hm⟩ := k2; exact DataW.trod_lt m _ _ _ hm
  obtain ⟨a0, cs0, w0, rfl, ok0⟩ := arg_agg (agg_struct Try.underlying64 (hval 0 64 v0 rfl rfl)) trainNearestUpto_op64 h0
  obtain ⟨u0_0, cs0_0, rfl, e0_0, ok0_0⟩ := okL_cons ok0
  obtain ⟨b0_0, n0_0, c0_0, rfl⟩ := reads_slice e0_0
  obtain ⟨u0_1, cs0_1, rfl, e0_1, ok0_1⟩ := okL_cons ok0_0
  obtain ⟨b0_1, n0_1, c0_1, rfl⟩ := reads_slice e0_1
  cases okL_nil ok0_1
  obtain ⟨a1, cs1, w1, rfl, ok1⟩ := arg_agg (agg_array Try.underlying73 (hval 1 73 v1 rfl rfl)) trainNearestUpto_op73 h1
  obtain ⟨u1_0, cs1_0, rfl, e1_0, ok1_0⟩ := okL_cons ok1
  cases e1_0
  obtain ⟨u1_1, cs1_1, rfl, e1_1, ok1_1⟩ := okL_cons ok1_0
  cases e1_1
  cases okL_nil ok1_1
  obtain ⟨a2, w2, rd2⟩ := arg_slice Try.underlying62 trainNearestUpto_op62 (hval 2 62 v2 rfl rfl) h2
  obtain ⟨b2, n2, c2, rfl⟩ := reads_slice rd2
  clear hA0 hval0
  have hkk : Rows.uptoBulkAll ([d0, d1, d2] ++ []) ≤ 1048576 := of_decide_eq_true hkb
  simp only [List.append_nil, Rows.uptoBulkAll] at hkk
  have z0_0 : a0.1.length ≤ 1048576 := by
    have e := up_reads e0_0
    have e2 := up_struct (b := b0_0) (len := n0_0) (cap := c0_0) 0 Try.underlying64 rfl Try.underlying62 (by kernel_rfl) k0
    omega
  have z0_1 : a0.2.length ≤ 1048576 := by
    have e := up_reads e0_1
    have e2 := up_struct (b := b0_1) (len := n0_1) (cap := c0_1) 1 Try.underlying64 rfl Try.underlying62 (by kernel_rfl) k0
    omega
  have z2 : a2.length ≤ 1048576 := by
    have e := up_reads rd2
    have e2 := up_slice Try.underlying62 k2
    omega
  obtain ⟨fuel, hev⟩ := trainNearest_evx w0 w1 w2 z0_0 z0_1 z2
  refine (FC.run (fc_law01_TrainNearest hev) (fun k => if k = 0 then (.slice b0_0 n0_0 c0_0) else if k = 1 then (.slice b0_1 n0_1 c0_1) else if k = 2 then (.slice b2 n2 c2) else .bool false) rfl (fun y hy => ?_)).mono fun e W' ⟨he, bel⟩ => ?_
  · simp only [List.mem_cons, List.not_mem_nil, or_false] at hy
    rcases hy with rfl | rfl | rfl
    · exact e0_0
    · exact e0_1
    · exact rd2
  subst he
  exact ⟨_, rfl, _, _, _, [], _, [], hW', trodAll_mk1 (shut_bool Try.underlying4 _), (trodAll_cons_mk (Below.trod trainNearestUpto_laid (by kernel_rfl) (of_decide_eq_true (by kernel_rfl)) k0 bel lt0) (trodAll_cons_mk (Below.trod trainNearestUpto_laid (by kernel_rfl) (of_decide_eq_true (by kernel_rfl)) k1 bel lt1) (trodAll_cons_mk (Below.trod trainNearestUpto_laid (by kernel_rfl) (of_decide_eq_true (by kernel_rfl)) k2 bel lt2) trodAll_mk0))), rfl, bel.frame _, fun h => by cases h⟩

theorem trainNearestUpto_q1 : Try.checked.prog.funcNamed Rows.trainNearestUptoRow.func = some 11 := by kernel_rfl
theorem trainNearestUpto_and {a b : Bool} (ha : a = true) (hb : b = true) : (a && b) = true := by rw [ha, hb]; rfl
set_option maxHeartbeats 4000000 in
theorem trainNearestUpto_q2 : joinedFacts Try.checked.prog 11 Try.f11 (Rows.OpenSpec.upto Rows.trainNearestSpec).bare Rows.trainNearestUptoRow = true := by
  unfold joinedFacts
  exact trainNearestUpto_and (trainNearestUpto_and (trainNearestUpto_and (trainNearestUpto_and (trainNearestUpto_and (trainNearestUpto_and (trainNearestUpto_and (trainNearestUpto_and (trainNearestUpto_and (trainNearestUpto_and (trainNearestUpto_and (trainNearestUpto_and (trainNearestUpto_and (trainNearestUpto_and (trainNearestUpto_and (trainNearestUpto_and (trainNearestUpto_and (trainNearestUpto_and (trainNearestUpto_and (trainNearestUpto_and (trainNearestUpto_and (trainNearestUpto_and (trainNearestUpto_and (trainNearestUpto_and (trainNearestUpto_and (trainNearestUpto_and (trainNearestUpto_and (trainNearestUpto_and (trainNearestUpto_and (trainNearestUpto_and (trainNearestUpto_and (by as_aux_lemma => kernel_rfl) (by as_aux_lemma => kernel_rfl)) (by as_aux_lemma => kernel_rfl)) (by as_aux_lemma => kernel_rfl)) (by as_aux_lemma => kernel_rfl)) (by as_aux_lemma => kernel_rfl)) (by as_aux_lemma => kernel_rfl)) (by as_aux_lemma => kernel_rfl)) (by as_aux_lemma => kernel_rfl)) (by as_aux_lemma => kernel_rfl)) (by as_aux_lemma => kernel_rfl)) (by as_aux_lemma => kernel_rfl)) (by as_aux_lemma => kernel_rfl)) (by as_aux_lemma => kernel_rfl)) (by as_aux_lemma => kernel_rfl)) (by as_aux_lemma => kernel_rfl)) (by as_aux_lemma => kernel_rfl)) (by as_aux_lemma => kernel_rfl)) (by as_aux_lemma => kernel_rfl)) (by as_aux_lemma => kernel_rfl)) (by as_aux_lemma => kernel_rfl)) (by as_aux_lemma => kernel_rfl)) (by as_aux_lemma => kernel_rfl)) (by as_aux_lemma => kernel_rfl)) (by as_aux_lemma => kernel_rfl)) (by as_aux_lemma => kernel_rfl)) (by as_aux_lemma => kernel_rfl)) (by as_aux_lemma => kernel_rfl)) (by as_aux_lemma => kernel_rfl)) (by as_aux_lemma => kernel_rfl)) (by as_aux_lemma => kernel_rfl)) (by as_aux_lemma => kernel_rfl)
theorem trainNearestUpto_q3 : Try.f11.isInstance Try.checked.prog Rows.trainNearestUptoRow.origin Rows.trainNearestUptoRow.targs := (of_decide_eq_true (by kernel_rfl))
theorem trainNearestUpto_q4 : Try.f11.isWrapper Try.checked.prog Rows.trainNearestUptoRow.wrapper Rows.trainNearestUptoRow.mainSum := (by unfold Func.isWrapper; first | (rw [if_pos (by decide +kernel)]; kernel_rfl) | (rw [if_neg (by decide +kernel)]; exact ⟨rfl, rfl⟩))
theorem trainNearestUpto_q5 : ∀ os : Os, os.Started → ∀ (H : Type) (enc : TypeId × Value → H), (∀ a b, enc a = enc b → a = b) → ∀ F : Stop.Interp,
    ReturnsInHanded Rows.trainNearestUptoRow.assume Try.checked os 11 .any (Rows.trainNearestUptoRow.pre enc Try.checked.prog Try.f11 (Rows.OpenSpec.upto Rows.trainNearestSpec)) (((Rows.OpenSpec.upto Rows.trainNearestSpec).at F).post enc Try.checked.prog Try.f11 Rows.trainNearestUptoRow.apart Rows.trainNearestUptoRow.fresh Rows.trainNearestUptoRow.handsOn Rows.trainNearestUptoRow.again) := fun os started H enc _ F => trainNearestUpto_lifted os started H enc F
theorem trainNearestUpto_said : Rows.TrainNearestUptoSaid :=
  OpenClaim.holds_of_cond 11 Try.f11 rfl rfl rfl rfl rfl rfl rfl ⟨rfl, rfl, rfl, rfl, rfl⟩ rfl rfl rfl rfl rfl trainNearestUpto_q1 Try.func11 trainNearestUpto_q2 trainNearestUpto_q3 trainNearestUpto_q4 trainNearestUpto_q5
end Go.Proofs.Ytabjhlfgcmmbfaa.Sy
namespace Go.Proofs.Ytabjhlfgcmmbfaa
theorem trainNearestUpto_holds : Rows.TrainNearestUptoSaid := Sy.trainNearestUpto_said
#print axioms trainNearestUpto_holds
end Go.Proofs.Ytabjhlfgcmmbfaa
