/- The walks of maps.DeleteFunc over costs, and of the closure that it is handed. -/
import Derived.Test.YtjmkjlhnipnkcaaPfFewAfter
set_option linter.unusedSimpArgs false
set_option linter.unusedVariables false
namespace Go.Proofs.Ytjmkjlhnipnkcaa
open Go.RowKit Go.Shelf Go.Maps
set_option maxHeartbeats 400000 in
theorem few1_any (s k c sh : Int) (X : Nat) (w : World) (h : w.cell? ⟨X, 1, none⟩ = some (.int .i64 sh)) (hX : X < w.heap.size) :
    Calls Try.prog 42 #[.agg #[.int .i64 s, .int .i64 k], .int .i64 c, .pointer (some ⟨X, 0, none⟩)] w (Ret w (.bool (s != sh))) := by
  go_enter Try.func42, Try.ntmps42
  go_wp2
  go_ret
  exact ret_bool rfl (by repeat first | exact Below.refl _ _ | assumption | (refine Below.alloc ?_ (by first | omega | (simp; done) | (simp; omega)) _) | (refine Below.setCell ?_ (by first | omega | (simp; done) | (simp; omega)) _) | (refine Below.drew ?_) | (refine belowDrewN ?_) | (refine Below.trans ?_ (Below.mono (by assumption) (by first | omega | (simp; done) | (simp; omega)))))
namespace Pu
def keepF (f : Dl → Option Int) (sh : Int) : Dl → Option Int := fun d => if d.s = sh then f d else none
end Pu
def DelRel (w : World) (b n X : Nat) (sh : Int) (f : Pu.Dl → Option Int) (W : World) : Prop :=
  ∃ left cnt g, IRange dialE 3 W b w.heap.size n g left cnt ∧ Keeps (fun y => y = b) w W ∧ w.heap.size + 1 ≤ W.heap.size ∧ ∀ d, dialE.ok d → ((left d ∨ d.s = sh) → g d = f d) ∧ (¬ left d → d.s ≠ sh → g d = none)
def DelPost (b n : Nat) (sh : Int) (f : Pu.Dl → Option Int) (w : World) (en : Ending) (w' : World) : Prop :=
  en = .returned (.tuple #[]) ∧ Keeps (fun y => y = b) w w' ∧ IMap dialE 3 w' b n (Pu.keepF f sh)
set_option maxHeartbeats 1000000 in
theorem deleteFunc_any (b n X : Nat) (sh : Int) (f : Pu.Dl → Option Int) (w : World) (h : IMap dialE 3 w b n f) (hc : w.cell? ⟨X, 1, none⟩ = some (.int .i64 sh)) (hX : X < w.heap.size) (hne : X ≠ b) :
    Calls Try.prog 41 #[.map (some b), .func (.func 42) #[] #[.pointer (some ⟨X, 0, none⟩)]] w (DelPost b n sh f w) := by
  have hlt := h.lt;have H := Lib.hid h; clear h;have HC := Lib.hid hc; clear hc;have ef := enters_of Try.func42 (by kernel_rfl) rfl
  go_enter Try.func41, Try.ntmps41
  go_wp2_with (at_range; refine wpList_imap_range dialE _ rfl _ 78 rfl 3 Try.underlying78 b n f rfl H.out ?_; intro w0 cnt0 hrg0 hcn0 hb0 hs0)
  have R0 : DelRel w b n X sh f w0 := ⟨_, _, f, hrg0, Keeps.below hb0, by omega, fun d hd => ⟨fun _ => rfl, fun h1 _ => by
    cases hf : f d with
    | none => rfl
    | some c => exact absurd ⟨c, hf⟩ h1⟩⟩
  clear hrg0 hb0 hs0 hcn0
  go_frame
  go_loopw [5] (fun _ wr => DelRel w b n X sh f wr) (fun _ wr => wr.rangeLeft b w.heap.size)
  case atStart => exact R0
  case round =>
    obtain ⟨left, cnt, g, hrg, hkw, hzw, hgf⟩ := hrel;have HG := Lib.hid hgf; have HR := Lib.hid hrg
    clear hgf hrg R0
    go_wp2_with (at_next; refine wpList_imap_next dialE _ rfl _ rfl 3 Try.underlying3 b w.heap.size n g left cnt rfl HR.out ?_ ?_)
    · intro hdone
      go_wp2_with fail
      go_end0
      have e : Pu.keepF f sh = g := by
        funext d
        unfold Pu.keepF
        by_cases hd : dialE.ok d
        · have := HG.out d hd
          split
          · exact (this.1 (.inr ‹_›)).symm
          · exact (this.2 (hdone d hd) ‹_›).symm
        · have h1 : f d = none := by cases hf : f d with | none => rfl | some c => exact absurd (H.out.ok hf).1 hd
          have h2 : g d = none := by cases hf : g d with | none => rfl | some c => exact absurd (HR.out.owns.ok hf).1 hd
          rw [h1, h2]; split <;> rfl
      exact ⟨rfl, hkw, by rw [e]; exact HR.out.owns⟩
    · intro d x w2 cnt2 hd hfd hld hrg2 hlt2 hk2 hs2 hen;have kw2 : Keeps (fun y => y = b) w w2 := ⟨hkw.low.trans hk2.low, fun i hi ho => (hk2.same i (by omega) (by omega)).trans (hkw.same i hi ho)⟩;have hz2 : w.heap.size + 1 ≤ w2.heap.size := by omega
      clear hs2
      obtain ⟨s, k⟩ := d;simp only [dialE_kv] at hen ⊢;have HC2 : w2.cell? ⟨X, 1, none⟩ = some (.int .i64 sh) := (World.cell?_of_block (w := w) (kw2.same X hX hne)).trans HC.out;have hXw : X < w2.heap.size := by omega
      clear HC
      go_wp2_with fail
      refine calls_name ?_;intro W hW;have BX : Blk W w2.heap.size #[.int .i64 s, .int .i64 k] 72 := by rw [hW]; exact (by repeat first | exact blk_at (by first | rfl | omega | (simp; done) | (simp; omega)) | assumption | refine Blk.alloc ?_ _ | refine Blk.drew ?_ | refine Blk.drewN ?_ _ | (refine Blk.other ?_ _ (by first | omega | (simp; done) | (simp; omega))) | (refine Blk.below ?_ (by assumption)))
      have hbW : Below w2.heap.size w2 W := by rw [hW]; exact (by repeat first | exact Below.refl _ _ | assumption | (refine Below.alloc ?_ (by first | omega | (simp; done) | (simp; omega)) _) | (refine Below.setCell ?_ (by first | omega | (simp; done) | (simp; omega)) _) | (refine Below.drew ?_) | (refine belowDrewN ?_) | (refine Below.trans ?_ (Below.mono (by assumption) (by first | omega | (simp; done) | (simp; omega)))))
      clear hW
      refine (few1_any s k x sh X W ((hbW.cell (p := ⟨X, 1, none⟩) hXw).trans HC2) (Nat.lt_of_lt_of_le hXw hbW.size)).mono ?_
      rintro e w1 ⟨rfl, hb1⟩; obtain ⟨hc1, hf1, hs1⟩ := bcell hb1; have hz1 := hb1.size; (try simp at hz1)
      have B1 := BX.below hb1;have hb2 : Below w2.heap.size w2 w1 := hbW.trans (hb1.mono hbW.size);have hr1 := hrg2.below hb2;have kw1 : Keeps (fun y => y = b) w w1 := kw2.trans (Keeps.below hb2);have c0 := B1.cell 0 rfl; have c1 := B1.cell 1 rfl;have hz4 : w.heap.size + 1 ≤ w1.heap.size := by have := hb2.size; omega
      clear hc1 hf1 hs1 hb1 hen hrg2 kw2 HC2 BX hbW hb2
      cases hq : (s != sh)
      · go_wp2_with fail
        have hs : s = sh := by simpa using hq
        refine ⟨⟨_, cnt2, g, hr1, kw1, hz4, fun d hd' => ⟨fun h => ?_, fun h1 h2 => ?_⟩⟩, by rw [hr1.left_eq, HR.out.left_eq]; exact hlt2⟩
        · rcases h with h | h
          · exact (HG.out d hd').1 (.inl h.1)
          · exact (HG.out d hd').1 (.inr h)
        · exact (HG.out d hd').2 (fun hl => h1 ⟨hl, fun e => h2 (by rw [e]; exact hs)⟩) h2
      · have HQ := Lib.hid hq; 
        go_wp2_with (at_delete; refine wpList_imap_delete dialE _ rfl _ _ 78 rfl 3 Try.underlying78 b w.heap.size n g _ cnt2 rfl hr1 ⟨s, k⟩ rfl hd ?_; intro w3 cnt3 hr3 hle3 hk3 hs3; go_frame)
        have hs : s ≠ sh := by simpa using HQ.out
        clear hs3
        refine ⟨⟨_, cnt3, _, hr3, kw1.trans hk3, Nat.le_trans hz4 hk3.size, fun d hd' => ⟨fun h => ?_, fun h1 h2 => ?_⟩⟩, by rw [hr3.left_eq, HR.out.left_eq]; omega⟩
        · unfold upd
          by_cases q : d = ⟨s, k⟩
          · subst q;rcases h with h | h
            · exact absurd rfl h.2
            · exact absurd h hs
          · rw [if_neg q];rcases h with h | h
            · exact (HG.out d hd').1 (.inl h.1.1)
            · exact (HG.out d hd').1 (.inr h)
        · unfold upd
          by_cases q : d = ⟨s, k⟩
          · rw [if_pos q]
          · rw [if_neg q];exact (HG.out d hd').2 (fun hl => h1 ⟨⟨hl, q⟩, q⟩) h2
end Go.Proofs.Ytjmkjlhnipnkcaa
