/- Rounds: easier rules. What keeps the law still keeps it, and takes no longer. -/
import Derived.Test.YtohjpfkcahlfkaaPeEvRoundT
set_option linter.unusedSimpArgs false
set_option linter.unusedVariables false
namespace Go.Proofs.Ytohjpfkcahlfkaa.Sy
open Go.RowKit
set_option maxRecDepth 100000
structure EaW (wd wd' : Wd) : Prop where
  keys : ∀ k, bitK .u16 .andNot k wd.1 = 0 → bitK .u16 .andNot k wd'.1 = 0
  oil : wd.2.1 ≤ wd'.2.1
  shift : wd.2.2.1 ≤ wd'.2.2.1
  run : wd.2.2.2 ≤ wd'.2.2.2
theorem EaW.rfl (wd : Wd) : EaW wd wd := ⟨fun _ h => h, Int.le_refl _, Int.le_refl _, Int.le_refl _⟩
structure Ea (t : List Tw) (w : List (List Int)) (g : List Wd) (rest : Int) (w' : List (List Int)) (g' : List Wd) (rest' : Int) : Prop where
  way : ∀ a b : Int, 0 ≤ a ∧ a ≤ t.length → 0 ≤ b ∧ b ≤ t.length → wayP w' a b ≤ wayP w a b
  rest : rest' ≤ rest
  len : g'.length = g.length
  win : ∀ (i : Nat) (wd : Wd), g[i]? = some wd → ∃ wd', g'[i]? = some wd' ∧ EaW wd wd'
structure Dom (σ' σ : Wk) : Prop where
  pl : σ'.pl = σ.pl
  wo : σ'.wo = σ.wo
  oil : σ'.oil = σ.oil
  run : σ'.run ≤ σ.run
  min : σ'.min ≤ σ.min
theorem work_dom {wd wd' : Wd} (hw : EaW wd wd') {σ σ' : Wk} (hd : Dom σ' σ) {d d' : Int} (hdd : d' ≤ d) (h0 : (workP wd σ d).1 = 0) : (workP wd' σ' d').1 = 0 ∧ Dom (workP wd' σ' d').2 (workP wd σ d).2 := by
  unfold workP at h0 ⊢;have h1 := hw.run;have h2 := hw.shift;have h3 := hd.run;have h4 := hd.min
  by_cases h5 : wd.2.2.2 < σ.run + d
  · rw [if_pos h5] at h0; simp at h0
  · rw [if_neg h5] at h0
    by_cases h6 : wd.2.2.1 < σ.min + d
    · rw [if_pos h6] at h0; simp at h0
    · refine ⟨by rw [if_neg (by omega), if_neg (by omega)], ⟨hd.pl, hd.wo, hd.oil, ?_, ?_⟩⟩
      · show σ'.run + d' ≤ σ.run + d; omega
      · show σ'.min + d' ≤ σ.min + d; omega
section
variable {t : List Tw} {w w' : List (List Int)} {g g' : List Wd} {rest rest' wage : Int} (h : OkR t w g rest wage) (h' : OkR t w' g' rest' wage) (he : Ea t w g rest w' g' rest')
include he in
theorem step_dom {wd wd' : Wd} (hw : EaW wd wd') {σ σ' : Wk} (hσ : OkW t σ) (hd : Dom σ' σ) {s : Int} (h0 : (stepP t w rest wd σ s).1 = 0) :
    (stepP t w' rest' wd' σ' s).1 = 0 ∧ Dom (stepP t w' rest' wd' σ' s).2 (stepP t w rest wd σ s).2 := by
  have hr := he.rest;have h1 := hw.oil;have h2 := hw.shift;have h3 := hd.run;have h4 := hd.min;have h5 := hd.oil;have hwo := hd.wo;have hpl := hd.pl;unfold stepP at h0 ⊢
  by_cases a1 : s = -1
  · rw [if_pos a1] at h0 ⊢;rw [if_pos a1]
    by_cases a2 : wd.2.2.1 < σ.min + rest
    · rw [if_pos a2] at h0; simp at h0
    · refine ⟨by rw [if_neg (show ¬ wd'.2.2.1 < σ'.min + rest' by omega)], ⟨hpl, hwo, h5, Int.le_refl _, ?_⟩⟩;show σ'.min + rest' ≤ σ.min + rest; omega
  · rw [if_neg a1] at h0 ⊢;rw [if_neg a1]
    by_cases a2 : 0 ≤ s ∧ s < t.length
    · rw [if_pos a2] at h0 ⊢;rw [if_pos a2]
      by_cases a3 : hasP σ.wo s = true
      · rw [if_pos a3] at h0; simp at h0
      · rw [if_neg a3] at h0 ⊢;rw [if_neg (by rw [hwo]; exact a3)]
        by_cases a4 : bitK .u16 .andNot (towP t s).2.2.1 wd.1 ≠ 0
        · rw [if_pos a4] at h0; simp at h0
        · rw [if_neg a4] at h0 ⊢;have a4' : ¬ bitK .u16 .andNot (towP t s).2.2.1 wd'.1 ≠ 0 := fun hn => hn (hw.keys _ (by simpa using a4))
          rw [if_neg a4']
          by_cases a5 : wd.2.1 < σ.oil + (towP t s).2.2.2.1
          · rw [if_pos a5] at h0; simp at h0
          · rw [if_neg a5] at h0 ⊢;rw [if_neg (by rw [h5]; omega)];refine work_dom hw (σ := { σ with pl := s, wo := withP σ.wo s, oil := σ.oil + (towP t s).2.2.2.1 }) (σ' := { σ' with pl := s, wo := withP σ'.wo s, oil := σ'.oil + (towP t s).2.2.2.1 }) ⟨rfl, by rw [hwo], by rw [h5], h3, h4⟩ ?_ h0;have := he.way σ.pl s hσ.pl (by omega);rw [hpl]; omega
    · rw [if_neg a2] at h0; simp at h0
include h he in
theorem cand_dom {wd wd' : Wd} (hm : wd ∈ g) (hw : EaW wd wd') {goal : Int} : ∀ (l : List Int) (r : Bool) (σ σ' : Wk) (m : Int), OkW t σ → Dom σ' σ → candP t w rest wd goal r σ l m → ∃ m', m' ≤ m ∧ candP t w' rest' wd' goal r σ' l m'
  | [], r, σ, σ', m, hσ, hd, hc => by
    obtain ⟨h1, h0, rfl⟩ := hc;have hway := he.way σ.pl t.length hσ.pl (by omega);obtain ⟨b1, b2⟩ := work_dom hw hd (d' := wayP w' σ'.pl t.length) (by rw [hd.pl]; exact hway) h0;exact ⟨_, b2.min, by rw [hd.wo]; exact h1, b1, rfl⟩
  | s :: l, r, σ, σ', m, hσ, hd, hc => by
    obtain ⟨h1, h0, hc⟩ := hc;obtain ⟨b1, b2⟩ := step_dom he hw hσ hd h0;obtain ⟨m', c1, c2⟩ := cand_dom hm hw l _ _ _ m (step_ok h hm hσ h0).1 b2 hc;refine ⟨m', c1, ?_, b1, c2⟩;unfold canP at h1 ⊢;rw [hd.wo]; exact h1
theorem Dom.rfl (σ : Wk) : Dom σ σ := ⟨Eq.refl _, Eq.refl _, Eq.refl _, Int.le_refl _, Int.le_refl _⟩
include h he in
theorem best_dom {wd wd' : Wd} (hm : wd ∈ g) (hw : EaW wd wd') {goal : Int} {l : List Int} {m : Int} {res : Bo} (hb : Bst (fun s m => candP t w rest wd goal false (beginP t) s m) (some (l, m))) (hb' : Bst (fun s m => candP t w' rest' wd' goal false (beginP t) s m) res) : ∃ l' m', res = some (l', m') ∧ m' ≤ m := by
  obtain ⟨m', c1, c2⟩ := cand_dom h he hm hw l false (beginP t) (beginP t) m begin_ok (Dom.rfl _) hb.1
  cases res with
  | none => exact absurd c2 (hb' _ _)
  | some x =>
    refine ⟨x.1, x.2, rfl, ?_⟩;have := hb'.2 _ _ c2
    omega
include h h' he in
theorem bstw_dom {x part : Int} (hx : 0 ≤ x ∧ x < g.length) (hp : 0 ≤ part ∧ part < 256) {l : List Int} {m : Int} (hb : BstW t w g rest x part (some (l, m))) : ∃ l' m', BstW t w' g' rest' x part (some (l', m')) := by
  have hlen := he.len;obtain ⟨res, o', _, _, hb'⟩ := office_ev h' (n := 400) (by omega) (o := []) (fun x part v hv => by rw [mlook_nil] at hv; cases hv) (x := x) (by omega) hp;obtain ⟨wd, hwd, hbst⟩ := hb;obtain ⟨wd2, hwd2, hbst2⟩ := hb';obtain ⟨wd', hwd', hw⟩ := he.win _ _ hwd;obtain rfl := Option.some.inj (hwd2.symm.trans hwd');obtain ⟨l', m', rfl, _⟩ := best_dom h he (List.mem_of_getElem? hwd) hw hbst hbst2;exact ⟨l', m', wd2, hwd2, hbst2⟩
include h h' he in
theorem shc_dom {x goal : Int} {ts : List Trp} {m : Int} (hx : 0 ≤ x) (hc : ShC t w g rest x goal ts m) : ∃ ts' m', ts'.length = ts.length ∧ ShC t w' g' rest' x goal ts' m' := by
  have hlen := he.len
  induction hc with
  | done x => exact ⟨[], 0, rfl, .done x⟩
  | skip h1 h0 _ ih =>
    obtain ⟨ts', m', e, hc⟩ := ih (by omega);exact ⟨ts', m', e, .skip (by omega) h0 hc⟩
  | take h1 h0 hp hs hb _ ih =>
    obtain ⟨ts', m', e, hc⟩ := ih (by omega);obtain ⟨l', m1', hb'⟩ := bstw_dom h h' he ⟨hx, h1⟩ (by omega) hb;exact ⟨_, _, by rw [List.length_cons, List.length_cons, e], .take (by omega) h0 hp hs hb' hc⟩
end
def kLe (a b : Shr) : Prop := a.1.length < b.1.length ∨ a.1.length = b.1.length ∧ a.2 ≤ b.2
theorem kLe_ok : OkLe kLe := ⟨fun a => .inr ⟨rfl, Int.le_refl _⟩, fun a b c h1 h2 => by unfold kLe at *; omega, fun a b _ _ h => ltS_key.1 h, fun a b _ _ h => ltS_key.2 h⟩
theorem wrap16_nat {x : Nat} (h : x < 65536) : IntKind.u16.wrap (x : Int) = x := by
  simp only [IntKind.wrap];simp [IntKind.bits, IntKind.signed]
  omega
theorem keys_or (k a b : Int) (h : bitK .u16 .andNot k a = 0) : bitK .u16 .andNot k (bitK .u16 .or a b) = 0 := by
  have hlt : ∀ x : BitVec 16, x.toNat < 65536 := fun x => x.isLt
  have e1 : bitK .u16 .or a b = (((BitVec.ofInt 16 a ||| BitVec.ofInt 16 b).toNat : Nat) : Int) := wrap16_nat (hlt _);have e2 : ∀ y : Int, bitK .u16 .andNot k y = (((BitVec.ofInt 16 k &&& ~~~ BitVec.ofInt 16 y).toNat : Nat) : Int) := fun y => wrap16_nat (hlt _)
  rw [e2] at h ⊢;rw [e1];have h0 : BitVec.ofInt 16 k &&& ~~~ BitVec.ofInt 16 a = 0#16 := by
    apply BitVec.eq_of_toNat_eq;have : (BitVec.ofInt 16 k &&& ~~~ BitVec.ofInt 16 a).toNat = 0 := by exact_mod_cast h
    rw [this]; rfl
  have h1 : BitVec.ofInt 16 (((BitVec.ofInt 16 a ||| BitVec.ofInt 16 b).toNat : Nat) : Int) = BitVec.ofInt 16 a ||| BitVec.ofInt 16 b := by
    rw [BitVec.ofInt_natCast, BitVec.ofNat_toNat, BitVec.setWidth_eq]
  have h2 : BitVec.ofInt 16 k &&& ~~~ (BitVec.ofInt 16 a ||| BitVec.ofInt 16 b) = 0#16 := by
    rw [BitVec.not_or, ← BitVec.and_assoc, h0, BitVec.zero_and]
  rw [h1, h2]; rfl
end Go.Proofs.Ytohjpfkcahlfkaa.Sy
