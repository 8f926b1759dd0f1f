/- Tooth by tooth: what the law computes is true. -/
import Derived.Test.YtgkoldcmbcbbpaaCmGTopCamTeeth
import Derived.Test.YtgkoldcmbcbbpaaCmEvCam
import Derived.Test.YtgkoldcmbcbbpaaCmEvPub
import Derived.Test.YtgkoldcmbcbbpaaCmEvPubChime
set_option linter.unusedSimpArgs false
set_option linter.unusedVariables false
namespace Go.Proofs.Ytgkoldcmbcbbpaa.Sy
open Go.RowKit
set_option maxRecDepth 100000
theorem pubTrain_ct : ev_top_pubTrain 12000 = some true := by decide +kernel
theorem topCamTeeth_evx {teeth1 : Int} {teeth2 : Int} {from_3 : Int} (h0 : (Lit.int .u8 teeth1).wf = true ∧ (Lit.int .u8 teeth2).wf = true) (h1 : (Lit.int .u16 from_3).wf = true) :
    ∃ n, ev_top_TopCamTeeth n teeth1 teeth2 from_3 = some true := by
  obtain ⟨a1, a2⟩ := h0;rw [wf8] at a1 a2;have a3 : 0 ≤ from_3 ∧ from_3 ≤ 65535 := by
    simpa only [Lit.wf, Bool.and_eq_true, decide_eq_true_eq, show IntKind.u16.min = 0 from rfl, show IntKind.u16.max = 65535 from rfl] using h1
  have et : ∀ t : Int, 0 ≤ t ∧ t ≤ 255 → Int.tmod t 95 = t % 95 := fun t ht => Int.tmod_eq_emod_of_nonneg ht.1
  obtain ⟨w, hw⟩ : ∃ w : Int, w = 6 + teeth1 % 95 := ⟨_, rfl⟩;obtain ⟨p, hp⟩ : ∃ p : Int, p = 6 + teeth2 % 95 := ⟨_, rfl⟩;have bw : 6 ≤ w ∧ w ≤ 100 := by omega
  have bp : 6 ≤ p ∧ p ≤ 100 := by omega
  obtain ⟨L, hL⟩ : ∃ L : Int, L = (Int.lcm w p : Nat) := ⟨_, rfl⟩;obtain ⟨l1, l2, l3⟩ := lcm_le (w := w) (p := p) (by omega) (by omega);have lb : w * p ≤ 100 * 100 := Int.mul_le_mul bw.2 bp.2 (by omega) (by omega);rw [← hL] at l1 l2 l3;have hc := cyc_one (w := w) (p := p) (by omega) (by omega);rw [← hL] at hc;have hok : OkP [(w, p)] := ⟨fun q hq => by rw [List.mem_singleton] at hq; subst hq; exact ⟨⟨bw.1, by omega⟩, bp.1, by omega⟩, by simp⟩;have m1 := ev_Meet2 bw bp hL (from_ := 1) (by omega) (n := 12000) (by omega);have e1 : (1 : Int) + (-1) % L = L := by
    have h := Int.emod_add_mul_ediv (-1) L;have g1 := Int.emod_nonneg (-1) (show L ≠ 0 by omega);have g2 := Int.emod_lt_of_pos (-1) (show 0 < L by omega);have hd : L ∣ 1 + (-1) % L := ⟨-((-1) / L), by rw [Int.mul_neg]; omega⟩;have := Int.le_of_dvd (by omega) hd
    omega
  rw [e1] at m1;have m2 := ev_Meet2 bw bp hL (from_ := from_3) (by omega) (n := 12000) (by omega);have e2 : from_3 + (-from_3) % L = L * (-((-from_3) / L)) := by
    have h := Int.emod_add_mul_ediv (-from_3) L;rw [Int.mul_neg]; omega
  have hr : 0 ≤ (-from_3) % L ∧ (-from_3) % L < L := ⟨Int.emod_nonneg _ (by omega), Int.emod_lt_of_pos _ (by omega)⟩;refine ⟨12000, ?_⟩;rw [ev_top_TopCamTeeth, et _ a1, et _ a2, ← hw, ← hp, chk_of (in64_of (by omega)), chk_of (in64_of (by omega)), chk_of (in64_of (by omega)), chk_of (in64_of (by omega)), bind_of (ev_Cycle (by decide) hok), bind_of m1, chk_of (in64_of (by omega)), bind_of m2, cond_if, if_neg (by simp), cond_if, if_neg (by simp), cond_if, if_neg (by simp), cond_if, if_neg (by simp; omega)];simp only [hc];rw [chk_of (in64_of (by omega)), cond_if, if_neg (by simp), chk_of (by simp; omega), Int.tmod_eq_emod_of_nonneg (by omega), cond_if, if_neg (by
    have : L % p = 0 := Int.emod_eq_zero_of_dvd (hL ▸ Int.dvd_lcm_right ..);simp [this]), ev_top_TopCamTeeth_j0, bind_of (pubUp_evp (by omega) (by simp only; omega))]
  simp only;rw [← e2, chk_of (in64_of (by omega)), cond_if, if_pos (by simp), bind_of pubTrain_ct, cond_if, if_pos rfl, bind_of pubChime_pc]
end Go.Proofs.Ytgkoldcmbcbbpaa.Sy
