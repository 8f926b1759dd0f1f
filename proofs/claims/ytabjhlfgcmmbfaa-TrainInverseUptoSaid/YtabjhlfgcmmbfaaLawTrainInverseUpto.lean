/- The other way round, for inputs of bulk at most 1048576. -/
import Derived.Test.YtabjhlfgcmmbfaaRows
import Derived.Test.YtabjhlfgcmmbfaaEvTrainInverse
import Derived.Test.YtabjhlfgcmmbfaaSymUp
import Derived.Test.YtabjhlfgcmmbfaaSymO
import Derived.Test.YtabjhlfgcmmbfaaChecked
import Derived.ProofKit
import Derived.ShutString
import Derived.ChangeOld
import Derived.JoinedCond
set_option linter.unusedSimpArgs false
set_option linter.unusedVariables false
namespace Go.Proofs.Ytabjhlfgcmmbfaa.Sy
open Go.ChangeShapes Go.WideShapes Go.ChangeAt Go.RowKit

theorem trainInverseUpto_op5 : Opens Try.prog 5 1 (fun x : Int => [D.v (.int .u8 x)]) (fun x => (Lit.int .u8 x).wf = true) := opens_int Try.underlying5 (by kernel_rfl)
theorem trainInverseUpto_op62 : Opens Try.prog 62 1 (fun x : (List Int) => [D.s 1 (List.map (fun el5 : Int => [D.v (.int .u8 el5)]) x)]) (fun x => ((x).length ≤ maxLen ∧ ∀ el5 ∈ x, (Lit.int .u8 el5).wf = true)) := opens_slice Try.underlying62 (by kernel_rfl) (by decide) trainInverseUpto_op5
theorem trainInverseUpto_op64 : Opens Try.prog 64 2 (fun x : (List Int) × (List Int) => [D.s 1 (List.map (fun el5 : Int => [D.v (.int .u8 el5)]) x.1), D.s 1 (List.map (fun el5 : Int => [D.v (.int .u8 el5)]) x.2)]) (fun x => ((x.1).length ≤ maxLen ∧ ∀ el5 ∈ x.1, (Lit.int .u8 el5).wf = true) ∧ ((x.2).length ≤ maxLen ∧ ∀ el5 ∈ x.2, (Lit.int .u8 el5).wf = true)) := (opens_struct Try.underlying64 (by kernel_rfl) (by kernel_rfl) (parts_cons trainInverseUpto_op62 (parts_cons trainInverseUpto_op62 parts_nil))).map (fun p => (p.1, p.2.1)) (fun _ => rfl) (fun p h => ⟨h.1, h.2.1⟩)
theorem trainInverseUpto_own : ownKnob Try.prog.godebug = none := by kernel_rfl
theorem trainInverseUpto_laid : laidOutB Try.prog = true := by kernel_rfl
set_option maxRecDepth 100000 in
set_option maxHeartbeats 1000000 in
theorem trainInverseUpto_lifted (os : Os) (started : os.Started) (H : Type) (enc : TypeId × Value → H) (F : Stop.Interp) :
    ReturnsInHanded {} Try.checked os 10 .any ((Rows.OpenSpec.upto Rows.trainInverseSpec).pre6 enc Try.prog Try.f10 Rows.trainInverseUptoRow.domain false) (((Rows.OpenSpec.upto Rows.trainInverseSpec).at F).post enc Try.prog Try.f10 false true false false) := by
  refine returnsInHanded_of_cond (C := Try.checked) (s := Rows.OpenSpec.upto Rows.trainInverseSpec) (k := Rows.uptoSmall) rfl trainInverseUpto_own started (by kernel_rfl) Try.func10
    (OpenSpec.witness (enc := enc) (C := Try.checked) (s := Rows.OpenSpec.upto Rows.trainInverseSpec) (k := Rows.uptoSmall) rfl false ⟨#[], #[.agg #[.slice none 0 0, .slice none 0 0], .slice none 0 0, .slice none 0 0], []⟩ 8 (by kernel_rfl) (by kernel_rfl) (by kernel_rfl) (x := ([.agg [.nil, .nil], .nil, .nil], [], [])) (by kernel_rfl) rfl (by kernel_rfl)) ?_
  intro W base args ds gs before hval0 hW _ hkb _
  have hval : ∀ (j : Nat) t v, Try.f10.params[j]? = some t → args[j]? = some v → Value.okWide Try.prog W .any base t v := hval0
  have hW' := hW
  obtain ⟨p, q, hA0, hV, rfl, hfz, hnd⟩ := hW
  have hA : DataW.TrodAll enc Try.prog W 0 (fun _ => true) true Try.f10.params.toList args.toList ds p := hA0
  rw [Try.params10] at hA hval
  obtain ⟨v0, vs0, d0, ds0, p0, q0, hargs, rfl, rfl, h0, r0⟩ := trodAll_cons hA
  obtain ⟨v1, vs1, d1, ds1, p1, q1, rfl, rfl, rfl, h1, r1⟩ := trodAll_cons r0
  obtain ⟨v2, vs2, d2, ds2, p2, q2, rfl, rfl, rfl, h2, r2⟩ := trodAll_cons r1
  obtain ⟨rfl, rfl, rfl⟩ := trodAll_nil r2
  obtain rfl : args = #[v0, v1, v2] := by cases args; simp_all
  obtain ⟨rfl, rfl⟩ := trodVars_none hV
  have k0 := h0
  have lt0 : ∀ x ∈ p0, x.block < W.heap.size := by obtain ⟨m, hm⟩ := k0; exact DataW.trod_lt m _ _ _ hm
  have k1 := h1
  have lt1 : ∀ x ∈ p1, x.block < W.heap.size := by obtain ⟨m, hm⟩ := k1; exact DataW.trod_lt m _ _ _ hm
  have k2 := h2
  have lt2 : ∀ x ∈ p2, x.block < W.heap.size := by obtain ⟨m, hm⟩ := k2; exact DataW.trod_lt m _ _ _ hm
  obtain ⟨a0, cs0, w0, rfl, ok0⟩ := arg_agg (agg_struct Try.underlying64 (hval 0 64 v0 rfl rfl)) trainInverseUpto_op64 h0
  obtain ⟨u0_0, cs0_0, rfl, e0_0, ok0_0⟩ := okL_cons ok0
  obtain ⟨b0_0, n0_0, c0_0, rfl⟩ := reads_slice e0_0
  obtain ⟨u0_1, cs0_1, rfl, e0_1, ok0_1⟩ := okL_cons ok0_0
  obtain ⟨b0_1, n0_1, c0_1, rfl⟩ := reads_slice e0_1
  cases okL_nil ok0_1
  obtain ⟨a1, w1, rd1⟩ := arg_slice Try.underlying62 trainInverseUpto_op62 (hval 1 62 v1 rfl rfl) h1
  obtain ⟨b1, n1, c1, rfl⟩ := reads_slice rd1
  obtain ⟨a2, w2, rd2⟩ := arg_slice Try.underlying62 trainInverseUpto_op62 (hval 2 62 v2 rfl rfl) h2
  obtain ⟨b2, n2, c2, rfl⟩ := reads_slice rd2
  clear hA0 hval0
  have hkk : Rows.uptoBulkAll ([d0, d1, d2] ++ []) ≤ 1048576 := of_decide_eq_true hkb
  simp only [List.append_nil, Rows.uptoBulkAll] at hkk
  have z0_0 : a0.1.length ≤ 1048576 := by
    have e := up_reads e0_0
    have e2 := up_struct (b := b0_0) (len := n0_0) (cap := c0_0) 0 Try.underlying64 rfl Try.underlying62 (by kernel_rfl) k0
    omega
  have z0_1 : a0.2.length ≤ 1048576 := by
    have e := up_reads e0_1
    have e2 := up_struct (b := b0_1) (len := n0_1) (cap := c0_1) 1 Try.underlying64 rfl Try.underlying62 (by kernel_rfl) k0
    omega
  have z1 : a1.length ≤ 1048576 := by
    have e := up_reads rd1
    have e2 := up_slice Try.underlying62 k1
    omega
  have z2 : a2.length ≤ 1048576 := by
    have e := up_reads rd2
    have e2 := up_slice Try.underlying62 k2
    omega
  obtain ⟨fuel, hev⟩ := trainInverse_evx w0 w1 w2 z0_0 z0_1 z1 z2
  refine (FC.run (fc_law01_TrainInverse hev) (fun k => if k = 0 then (.slice b0_0 n0_0 c0_0) else if k = 1 then (.slice b0_1 n0_1 c0_1) else if k = 2 then (.slice b1 n1 c1) else if k = 3 then (.slice b2 n2 c2) else .bool false) rfl (fun y hy => ?_)).mono fun e W' ⟨he, bel⟩ => ?_
  · simp only [List.mem_cons, List.not_mem_nil, or_false] at hy
    rcases hy with rfl | rfl | rfl | rfl
    · exact e0_0
    · exact e0_1
    · exact rd1
    · exact rd2
  subst he
  exact ⟨_, rfl, _, _, _, [], _, [], hW', trodAll_mk1 (shut_bool Try.underlying4 _), (trodAll_cons_mk (Below.trod trainInverseUpto_laid (by kernel_rfl) (of_decide_eq_true (by kernel_rfl)) k0 bel lt0) (trodAll_cons_mk (Below.trod trainInverseUpto_laid (by kernel_rfl) (of_decide_eq_true (by kernel_rfl)) k1 bel lt1) (trodAll_cons_mk (Below.trod trainInverseUpto_laid (by kernel_rfl) (of_decide_eq_true (by kernel_rfl)) k2 bel lt2) trodAll_mk0))), rfl, bel.frame _, fun h => by cases h⟩

theorem trainInverseUpto_q1 : Try.checked.prog.funcNamed Rows.trainInverseUptoRow.func = some 10 := by kernel_rfl
theorem trainInverseUpto_and {a b : Bool} (ha : a = true) (hb : b = true) : (a && b) = true := by rw [ha, hb]; rfl
set_option maxHeartbeats 4000000 in
theorem trainInverseUpto_q2 : joinedFacts Try.checked.prog 10 Try.f10 (Rows.OpenSpec.upto Rows.trainInverseSpec).bare Rows.trainInverseUptoRow = true := by
  unfold joinedFacts
  exact trainInverseUpto_and (trainInverseUpto_and (trainInverseUpto_and (trainInverseUpto_and (trainInverseUpto_and (trainInverseUpto_and (trainInverseUpto_and (trainInverseUpto_and (trainInverseUpto_and (trainInverseUpto_and (trainInverseUpto_and (trainInverseUpto_and (trainInverseUpto_and (trainInverseUpto_and (trainInverseUpto_and (trainInverseUpto_and (trainInverseUpto_and (trainInverseUpto_and (trainInverseUpto_and (trainInverseUpto_and (trainInverseUpto_and (trainInverseUpto_and (trainInverseUpto_and (trainInverseUpto_and (trainInverseUpto_and (trainInverseUpto_and (trainInverseUpto_and (trainInverseUpto_and (trainInverseUpto_and (trainInverseUpto_and (trainInverseUpto_and (by as_aux_lemma => kernel_rfl) (by as_aux_lemma => kernel_rfl)) (by as_aux_lemma => kernel_rfl)) (by as_aux_lemma => kernel_rfl)) (by as_aux_lemma => kernel_rfl)) (by as_aux_lemma => kernel_rfl)) (by as_aux_lemma => kernel_rfl)) (by as_aux_lemma => kernel_rfl)) (by as_aux_lemma => kernel_rfl)) (by as_aux_lemma => kernel_rfl)) (by as_aux_lemma => kernel_rfl)) (by as_aux_lemma => kernel_rfl)) (by as_aux_lemma => kernel_rfl)) (by as_aux_lemma => kernel_rfl)) (by as_aux_lemma => kernel_rfl)) (by as_aux_lemma => kernel_rfl)) (by as_aux_lemma => kernel_rfl)) (by as_aux_lemma => kernel_rfl)) (by as_aux_lemma => kernel_rfl)) (by as_aux_lemma => kernel_rfl)) (by as_aux_lemma => kernel_rfl)) (by as_aux_lemma => kernel_rfl)) (by as_aux_lemma => kernel_rfl)) (by as_aux_lemma => kernel_rfl)) (by as_aux_lemma => kernel_rfl)) (by as_aux_lemma => kernel_rfl)) (by as_aux_lemma => kernel_rfl)) (by as_aux_lemma => kernel_rfl)) (by as_aux_lemma => kernel_rfl)) (by as_aux_lemma => kernel_rfl)) (by as_aux_lemma => kernel_rfl)) (by as_aux_lemma => kernel_rfl)
theorem trainInverseUpto_q3 : Try.f10.isInstance Try.checked.prog Rows.trainInverseUptoRow.origin Rows.trainInverseUptoRow.targs := (of_decide_eq_true (by kernel_rfl))
theorem trainInverseUpto_q4 : Try.f10.isWrapper Try.checked.prog Rows.trainInverseUptoRow.wrapper Rows.trainInverseUptoRow.mainSum := (by unfold Func.isWrapper; first | (rw [if_pos (by decide +kernel)]; kernel_rfl) | (rw [if_neg (by decide +kernel)]; exact ⟨rfl, rfl⟩))
theorem trainInverseUpto_q5 : ∀ os : Os, os.Started → ∀ (H : Type) (enc : TypeId × Value → H), (∀ a b, enc a = enc b → a = b) → ∀ F : Stop.Interp,
    ReturnsInHanded Rows.trainInverseUptoRow.assume Try.checked os 10 .any (Rows.trainInverseUptoRow.pre enc Try.checked.prog Try.f10 (Rows.OpenSpec.upto Rows.trainInverseSpec)) (((Rows.OpenSpec.upto Rows.trainInverseSpec).at F).post enc Try.checked.prog Try.f10 Rows.trainInverseUptoRow.apart Rows.trainInverseUptoRow.fresh Rows.trainInverseUptoRow.handsOn Rows.trainInverseUptoRow.again) := fun os started H enc _ F => trainInverseUpto_lifted os started H enc F
theorem trainInverseUpto_said : Rows.TrainInverseUptoSaid :=
  OpenClaim.holds_of_cond 10 Try.f10 rfl rfl rfl rfl rfl rfl rfl ⟨rfl, rfl, rfl, rfl, rfl⟩ rfl rfl rfl rfl rfl trainInverseUpto_q1 Try.func10 trainInverseUpto_q2 trainInverseUpto_q3 trainInverseUpto_q4 trainInverseUpto_q5
end Go.Proofs.Ytabjhlfgcmmbfaa.Sy
namespace Go.Proofs.Ytabjhlfgcmmbfaa
theorem trainInverseUpto_holds : Rows.TrainInverseUptoSaid := Sy.trainInverseUpto_said
#print axioms trainInverseUpto_holds
end Go.Proofs.Ytabjhlfgcmmbfaa
