/- The walks of maps.Values over costs, of its iterator, of slices.Collect and slices.Min. -/
import Derived.Test.YtjmkjlhnipnkcaaPfFewDel
import Derived.Test.YtjmkjlhnipnkcaaPfIMapIn
import Derived.Test.YtjmkjlhnipnkcaaPfRangeP
import Derived.WalkKit
import Derived.OwnWalkIn
import Derived.TacticsInMore
import Derived.RegionIn
import Derived.LoopNIn
import Derived.LoopIn
import Derived.BigFrameIn
set_option linter.unusedSimpArgs false
set_option linter.unusedVariables false
namespace Go.Proofs.Ytjmkjlhnipnkcaa
open Go.RowKit Go.Shelf Go.Maps
set_option maxHeartbeats 400000 in
theorem values_any (b : Nat) (w : World) :
    Calls Try.prog 45 #[.map (some b)] w (fun en w' => en = .returned (.func (.func 54) #[] #[.pointer (some ⟨w.heap.size, 0, none⟩)]) ∧ w' = w.alloc (.cells #[.map (some b)] 78)) := by
  go_enter Try.func45, Try.ntmps45
  go_wp2
  go_ret
  exact ⟨rfl, rfl⟩
def ValsPart {κ : Type} (n : Nat) (f : κ → Option Int) (xs : List Int) : Prop := xs.length ≤ n ∧ ∀ c ∈ xs, ∃ d, f d = some c
def ValsAll {κ : Type} (n : Nat) (f : κ → Option Int) (xs : List Int) : Prop := ValsPart n f xs ∧ ∀ d c, f d = some c → c ∈ xs
def ValsRel (J : List Int → (Nat → Prop) → World → Prop) (b it n : Nat) (O : Nat → Prop) (f : Pu.Dl → Option Int) (wr : World) : Prop :=
  ∃ left cnt pre, IRange dialE 3 wr b it n f left cnt ∧ pre.length + cnt ≤ n ∧ (∀ c ∈ pre, ∃ d, f d = some c) ∧ (∀ d c, f d = some c → ¬ left d → c ∈ pre) ∧ J pre O wr
set_option maxHeartbeats 1000000 in
theorem values1_iter (b n Bm : Nat) (f : Pu.Dl → Option Int) (W0 : World) (h : IMap dialE 3 W0 b n f) (hB : Blk W0 Bm #[.map (some b)] 78) (hne : Bm ≠ b) :
    IteratesP Try.prog 54 #[.pointer (some ⟨Bm, 0, none⟩)] (ValsPart n f) (ValsAll n f) (fun c : Int => #[.int .i64 c]) (fun x => x = Bm) (fun x => x = b) W0 := by
  intro L J W hW hJ hY hJ0;have hbw : b < W.heap.size := Nat.lt_of_lt_of_le h.lt hW.size;have hBw : Bm < W.heap.size := Nat.lt_of_lt_of_le hB.lt hW.size;have HM := Lib.hid (h.below hW);have c0 := (hB.below hW).cell 0 rfl;have hY' := Lib.hid hY; clear hY
  clear h hB
  (refine callsIn_of_wp Try.func54 rfl trivial ?_ rfl; simp only [Try.ntmps54, List.size_toArray, List.length_cons, List.length_nil, Nat.reduceAdd, Nat.reduceSub, Array.replicate_succ, Array.replicate_zero, List.push_toArray, List.append_toArray, List.nil_append, List.cons_append])
  gi_wp2_with (gi_at_range; refine wpListIn_imap_range dialE _ rfl _ 78 rfl 3 Try.underlying78 b n f rfl HM.out ?_; intro w0 cnt0 hrg0 hcn0 hb0 hs0)
  obtain ⟨O1, hO1⟩ : ∃ O1 : Nat → Prop, O1 = fun x => x = Bm ∨ x = W.heap.size := ⟨_, rfl⟩
  have j1 : J [] O1 w0 := hJ _ _ _ _ _ hJ0 (Keeps.below hb0) (fun x hx => by rw [hO1]; exact .inl hx) (fun x hx => by rw [hO1] at hx; rcases hx with h | h; exact .inl h; right; omega);have R0 : ValsRel J b W.heap.size n O1 f w0 := ⟨_, cnt0, [], hrg0, by simpa using hcn0, fun c hc => (by cases hc), fun d c h1 h2 => absurd ⟨c, h1⟩ h2, j1⟩
  clear hrg0 hcn0 hb0 hs0 j1 hJ0
  try go_frame
  gi_loopw [4] (fun _ wr => ValsRel J b W.heap.size n O1 f wr) (fun _ wr => wr.rangeLeft b W.heap.size)
  case atStart => exact R0
  case round =>
    obtain ⟨left, cnt, pre, hrg, hlen, hp1, hp2, hj⟩ := hrel;have HR := Lib.hid hrg; have HJ := Lib.hid hj; have H1 := Lib.hid hp1; have H2 := Lib.hid hp2
    clear hrg hj hp1 hp2 R0
    gi_wp2_with (gi_at_next; refine wpListIn_imap_next dialE _ rfl _ rfl 3 Try.underlying3 b W.heap.size n f left cnt rfl HR.out ?_ ?_)
    · intro hdone
      gi_wp2_with fail
      go_end0
      exact ⟨⟨_, rfl⟩, O1, pre, ⟨⟨by omega, H1.out⟩, fun d c hd => H2.out d c hd (hdone d (HR.out.owns.ok hd).1)⟩, fun x hx => by rw [hO1]; exact .inl hx, HJ.out⟩
    · intro d x w2 cnt2 hd hfd hld hrg2 hlt2 hk2 hs2 hen;obtain ⟨s, k⟩ := d;simp only [dialE_kv] at hen ⊢;have j2 : J pre O1 w2 := hJ _ O1 O1 _ _ HJ.out (hk2.mono fun y _ h => by rw [hO1]; exact .inr h) (fun _ h => h) (fun _ h => .inl h);have hpart : ValsPart n f (pre ++ [x]) := ⟨by simp; omega, fun c hc => by
        rcases List.mem_append.1 hc with h | h
        · exact H1.out c h
        · simp at h; subst h; exact ⟨_, hfd⟩⟩
      obtain ⟨fn, tmps, asg, bdy, hy, hR⟩ := hY'.out pre x O1 w2 hpart (fun y hy => by rw [hO1]; exact .inl hy) j2;have HRR := Lib.hid hR
      clear hs2 hR
      gi_wp2_with fail
      refine ⟨rfl, HRR.out.mono ?_⟩
      rintro en W4 ⟨rfl, hj4, hk4⟩
      have hb4 : ¬(¬O1 b ∧ ¬ b = b) := fun h => h.2 rfl
      have hi4 : ¬(¬O1 W.heap.size ∧ ¬ W.heap.size = b) := fun h => h.1 (by rw [hO1]; exact .inr rfl)
      have hr4 := hrg2.keeps hk4 hb4 hi4
      clear hrg2 hk4 HRR hy hen
      gi_wp2_with fail
      refine ⟨⟨_, cnt2, pre ++ [x], hr4, by simp; omega, fun c hc => ?_, fun d' c h1 h2 => ?_, hj4⟩, by rw [hr4.left_eq, HR.out.left_eq]; exact hlt2⟩
      · rcases List.mem_append.1 hc with h | h
        · exact H1.out c h
        · simp at h; subst h; exact ⟨_, hfd⟩
      · by_cases q : d' = ⟨s, k⟩
        · subst q; rw [hfd] at h1; cases h1; simp
        · exact List.mem_append.2 (.inl (H2.out d' c h1 (fun h => h2 ⟨h, q⟩)))
end Go.Proofs.Ytjmkjlhnipnkcaa
