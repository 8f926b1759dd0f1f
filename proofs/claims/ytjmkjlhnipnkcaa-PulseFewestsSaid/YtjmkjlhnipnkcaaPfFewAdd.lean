/- The walk of pulse.costs.add. -/
import Derived.Test.YtjmkjlhnipnkcaaPfDialKey
set_option linter.unusedSimpArgs false
set_option linter.unusedVariables false
namespace Go.Proofs.Ytjmkjlhnipnkcaa
open Go.RowKit Go.Shelf Go.Maps
namespace Pu
def addF (f : Dl → Option Int) (d : Dl) (c : Int) : Dl → Option Int := if c ≤ 20 ∧ (∀ old, f d = some old → c < old) then upd f d (some c) else f
end Pu
def AddPost (b n : Nat) (f : Pu.Dl → Option Int) (d : Pu.Dl) (c : Int) (w : World) (e : Ending) (w' : World) : Prop :=
  e = .returned (.tuple #[]) ∧ Keeps (fun y => y = b) w w' ∧ IMap dialE 3 w' b (n + 1) (Pu.addF f d c)
set_option maxHeartbeats 400000 in
theorem add_any (b n : Nat) (f : Pu.Dl → Option Int) (s k c : Int) (w : World) (h : IMap dialE 3 w b n f) (hn : n < maxLen) (hd : dialE.ok ⟨s, k⟩) (hc : (Lit.int .i64 c).wf = true) :
    Calls Try.prog 52 #[.map (some b), .agg #[.int .i64 s, .int .i64 k], .int .i64 c] w (AddPost b n f ⟨s, k⟩ c w) := by
  have hlt := h.lt;have H := Lib.hid (h.alloc (.cells #[.int .i64 s, .int .i64 k] 72)); clear h;have HN := Lib.hid hn; clear hn;have HD := Lib.hid hd; clear hd;have HC := Lib.hid hc; clear hc;have K0 := Lib.hid (Keeps.alloc (fun y => y = b) w (.cells #[.int .i64 s, .int .i64 k] 72));obtain ⟨fd, hfd⟩ : ∃ fd, f ⟨s, k⟩ = fd := ⟨_, rfl⟩;have HF := Lib.hid hfd
  go_enter Try.func52, Try.ntmps52
  cases fd
  all_goals (
    go_wp2_with (first
      | (at_lookup; refine wpList_imap_look dialE _ rfl _ _ 78 rfl 3 Try.underlying78 Try.underlying3 (zero_int _) b n f rfl H.out ⟨s, k⟩ rfl HD.out ?_)
      | (at_mapUpdate; refine wpList_imap_set dialE _ rfl _ _ _ 78 rfl 3 Try.underlying78 Try.underlying3 b n f rfl H.out HN.out ⟨s, k⟩ c rfl rfl HD.out HC.out ?_; intro w1 hm1 hk1))
    all_goals go_end0)
  all_goals (have hf := HF.out; refine ⟨rfl, ?_⟩; unfold Pu.addF)
  all_goals (first
    | (rw [if_pos (by refine ⟨by omega, fun old h => ?_⟩; rw [hf] at h; first | (simp at h; done) | (cases h; assumption))]; exact ⟨K0.out.trans hk1, hm1⟩)
    | (rw [if_neg (by rintro ⟨h1, h2⟩; first | omega | (have := h2 _ hf; omega))]; exact ⟨K0.out, H.out.mono (by omega)⟩))
end Go.Proofs.Ytjmkjlhnipnkcaa
