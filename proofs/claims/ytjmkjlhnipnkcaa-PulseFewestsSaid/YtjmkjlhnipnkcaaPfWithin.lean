/- slices.IndexFunc, slices.ContainsFunc over ints, and pulse.within. -/
import Derived.Test.YtjmkjlhnipnkcaaPfBase
set_option linter.unusedSimpArgs false
set_option linter.unusedVariables false
namespace Go.Proofs.Ytjmkjlhnipnkcaa
open Go.RowKit Go.Shelf
set_option maxHeartbeats 400000 in
theorem indexFunc_any (a : Option Addr) (c f : Nat) (cap : Array Value) (p : Int → Bool) (zs : List Int) (w : World) (hz : IsInts w a zs) (hd : Decides Try.prog w f cap p zs)
   (ef : ∀ args w, (callFunc f args).run Try.prog w = .ok (.enter f args) w) :
    Calls Try.prog 55 #[.slice a zs.length c, .func (.func f) #[] cap] w (Ret w (.int .i64 (idx p zs))) := by
  have hlen := hz.1;have HZ := Lib.hid hz; clear hz;have HD := Lib.hid hd; clear hd
  go_enter Try.func55, Try.ntmps55
  go_wp2
  go_loopw [8, 5] (fun i _ wr => ∃ k : Nat, k ≤ zs.length ∧ i = .int .i64 k ∧ (∀ j (_ : j < zs.length), j < k → p zs[j] = false) ∧ Below w.heap.size w wr) (fun i _ _ => zs.length - (intOf i).toNat)
  case atStart => exact ⟨0, Nat.zero_le _, rfl, fun j _ hj => by omega, Below.refl _ _⟩
  case round =>
    obtain ⟨k, hk, rfl, hno, hb⟩ := hrel;have HN := Lib.hid hno; clear hno
    by_cases hlt : k < zs.length
    · obtain ⟨b, o, rfl, hbl, hc⟩ := (HZ.out.below hb).2 k hlt;have HC := Lib.hid (HD.out wr zs[k] hb (by simp))
      by_cases hp : p zs[k] = true
      · have HP := Lib.hid hp; clear hp
        go_wp2_with ((refine (HC.out).mono ?_); rintro e w1 ⟨rfl, hb1⟩; rw [HP.out])
        go_ret
        exact ret_int (idx_some p zs k HN.out hlt HP.out).symm (hb.trans (hb1.mono hb.size))
      · have hp' : p zs[k] = false := by simpa using hp
        have HP := Lib.hid hp'; clear hp hp'
        go_wp2_with ((refine (HC.out).mono ?_); rintro e w1 ⟨rfl, hb1⟩; rw [HP.out])
        go_roundw
        case rel => exact ⟨k + 1, by omega, by go_num, fun j h1 h2 => by rcases Nat.lt_succ_iff_lt_or_eq.1 h2 with h | h; exact HN.out j h1 h; subst h; exact HP.out, hb.trans (hb1.mono hb.size)⟩
        case measure => simp [intOf]; omega
    · go_wp2
      go_ret
      exact ret_int (idx_none p zs k HN.out (by omega)).symm hb
set_option maxHeartbeats 400000 in
theorem containsFunc_any (a : Option Addr) (c f : Nat) (cap : Array Value) (p : Int → Bool) (zs : List Int) (w : World) (hz : IsInts w a zs) (hd : Decides Try.prog w f cap p zs)
   (ef : ∀ args w, (callFunc f args).run Try.prog w = .ok (.enter f args) w) :
    Calls Try.prog 46 #[.slice a zs.length c, .func (.func f) #[] cap] w (Ret w (.bool (zs.any p))) := by
  have HC := Lib.hid (indexFunc_any a c f cap p zs w hz hd ef);have HA := Lib.hid (idx_any p zs)
  clear hz hd
  go_enter Try.func46, Try.ntmps46
  go_wp2_with ((refine (HC.out).mono ?_); rintro e w1 ⟨rfl, hb1⟩)
  go_ret
  exact ret_bool HA.out hb1
end Go.Proofs.Ytjmkjlhnipnkcaa
