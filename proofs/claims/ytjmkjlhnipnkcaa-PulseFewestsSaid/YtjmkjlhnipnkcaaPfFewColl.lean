/- The walks of slices.AppendSeq, slices.Collect and slices.Min over ints. -/
import Derived.Test.YtjmkjlhnipnkcaaPfFewVals
import Derived.Test.YtjmkjlhnipnkcaaPfOwn
import Derived.Deep.DeepMust
import Derived.Maps.OwnIn
set_option linter.unusedSimpArgs false
set_option linter.unusedVariables false
namespace Go.Proofs.Ytjmkjlhnipnkcaa
open Go.RowKit Go.Shelf Go.Maps
theorem info_int : (Try.prog.info? 3).map (fun i => (i.zero, i.size, i.bytes)) = some (some (.int .i64 0), 1, 8) := by kernel_rfl
structure CollI (S : Nat → Prop) (w : World) (pre : List Int) (O : Nat → Prop) (W : World) : Prop where
  low : Keeps O w W
  up : ∀ b, O b → S b ∨ w.heap.size + 1 ≤ b
  big : w.heap.size + 1 ≤ W.heap.size
  old : ∀ b, O b → b < W.heap.size
  box : ∃ v, Blk W w.heap.size #[v] 83 ∧ W.ownsRow (w.heap.size + 1) 3 1 v pre.length (pre.map (Value.int .i64)) ∧ ∀ g, v.ownBlock = some g → ¬ O g
theorem collI_abide {S : Nat → Prop} {w : World} (hS : ∀ b, S b → b < w.heap.size) : AbideP (CollI S w) := by
  rintro pre O O' W W' ⟨h1, h2, h3, h7, ⟨v, h4, h5, h6⟩⟩ hk hO hO'
  have hu : ∀ b, O' b → S b ∨ w.heap.size + 1 ≤ b := fun b h => by
    rcases hO' b h with h | h
    · exact h2 b h
    · exact .inr (by omega)
  have hv : ∀ g, v.ownBlock = some g → ¬ O' g := fun g hg h => by
    rcases hO' _ h with h | h
    · exact h6 g hg h
    · have := (h5.lt g hg).2; omega
  refine ⟨(h1.mono fun b _ h => hO b h).trans hk, hu, Nat.le_trans h3 hk.size, fun b h => by rcases hO' b h with h | h; exact Nat.lt_of_lt_of_le (h7 b h) hk.size; exact h.2, v, hk.blk h4 (fun h => ?_), owns_keeps h5 hk hv, hv⟩;rcases hu _ h with h | h
  · have := hS _ h; omega
  · omega
def CollPost (S : Nat → Prop) (All : List Int → Prop) (w : World) (en : Ending) (w' : World) : Prop :=
  ∃ a cp xs, All xs ∧ en = .returned (.slice a xs.length cp) ∧ xs.length ≤ cp ∧ IsInts w' a xs ∧ Keeps S w w'
attribute [local go_sem] Oper.semAt_some
set_option maxRecDepth 100000 in
set_option maxHeartbeats 2000000 in
theorem appendSeq_any (gf : Nat) (lb : Array Value) (Part All : List Int → Prop) (S R : Nat → Prop) (N : Nat) (w : World) (hN : N ≤ 17592186044415) (hP : ∀ xs, Part xs → xs.length ≤ N) (hA : ∀ xs, All xs → xs.length ≤ N)
    (eg : ∀ args w, (callFunc gf args).run Try.prog w = .ok (.enter gf args) w)
    (hS : ∀ b, S b → b < w.heap.size) (hR : ∀ b, R b → b < w.heap.size) (hit : IteratesP Try.prog gf lb Part All (fun c : Int => #[.int .i64 c]) S R w) :
    Calls Try.prog 53 #[.slice none 0 0, .func (.func gf) #[] lb] w (CollPost S All w) := by
  have hit' : IteratesP Try.prog gf lb Part All (fun c : Int => #[.int .i64 c]) S R (w.alloc (.cells #[.slice none 0 0] 83)) := fun L J W hW => hit L J W (((Below.refl _ w).alloc (Nat.le_refl _) _).trans (hW.mono (by simp)))
  have HIT := Lib.hid hit'; clear hit hit';obtain ⟨i0, hinf, hz0, hz1, hz2⟩ := info_parts info_int;have ha := collI_abide (w := w) hS;have HA := Lib.hid ha; clear ha;have I0 : CollI S w [] S (w.alloc (.cells #[.slice none 0 0] 83)) := ⟨Keeps.alloc _ _ _, fun b h => .inl h, by simp, fun b h => by have := hS b h; simp; omega, .slice none 0 0, (by repeat first | exact blk_at (by first | rfl | omega | (simp; done) | (simp; omega)) | assumption | refine Blk.alloc ?_ _ | refine Blk.drew ?_ | refine Blk.drewN ?_ _ | (refine Blk.other ?_ _ (by first | omega | (simp; done) | (simp; omega))) | (refine Blk.below ?_ (by assumption))), World.ownsRow_nil _ _ _ _, fun g hg => by cases hg⟩;have HI0 := Lib.hid I0; clear I0
  (refine (callsIn_wide (n := 0)).1 (callsIn_of_wp_marks Try.func53 rfl trivial (wpIn_wide.2 ?_)); simp only [Try.ntmps53, List.size_toArray, List.length_cons, List.length_nil, Nat.reduceAdd, Nat.reduceSub, Array.replicate_succ, Array.replicate_zero, List.push_toArray, List.append_toArray, List.nil_append, List.cons_append])
  go_wp2_with fail
  refine (wpIn_wide (n := 0)).1 (rangeFunc_wideP (gf := gf) (lb := lb) (by rfl) eg HIT.out (fun b h => by have := hS b h; simp; omega) (fun b h => by have := hR b h; simp; omega) (fun x => rfl) (CollI S w) HA.out HI0.out ?_ ?_)
  · intro l O pre x W hpart hi hSO hOl hlW;have hlen := hP _ hpart;simp only [List.length_append, List.length_cons, List.length_nil] at hlen;rw [foldp1];simp only [List.setIfInBounds_toArray, List.set_cons_succ, List.set_cons_zero]
    gi_wp2_with fail
    refine ⟨Keeps.refl _ _, hi, ?_⟩;intro W2 hk2 hi2;obtain ⟨v, hv1, hv2, hv3⟩ := hi2.box;have c0 := hv1.cell 0 rfl;have f0 := hv1.free;have hbig := hi2.big;have HI2 := Lib.hid hi2;have HV := Lib.hid hv2;have nB : ¬ O w.heap.size := fun h => by rcases hi2.up _ h with h | h; have := hS _ h; omega; omega
    have nv : v.ownBlock ≠ some w.heap.size := fun h => by have := (hv2.lt _ h).1; omega
    clear hi2 hv2
    gi_wp2_with (gi_at_builtin; go_must (refine wpListIn_append_own_at _ rfl _ _ 83 rfl (w.heap.size + 1) 3 i0 (.int .i64 0) 1 8 Try.underlying83 hinf hz0 hz1 hz2 rfl (by decide) _ _ _ rfl (HV.out.alloc _) ⟨W2.heap.size, 0, none⟩ 1 1 [.int .i64 x] rfl rfl (cell_one_new _ _ _) (by simp [Value.oneCell']) (by unfold maxLen; omega) (by omega) (by simp; omega) ?_); intro v' w3 hown' hg3 hnil3 hat3; have HAT := Lib.hid hat3; clear hnil3 hat3; obtain ⟨a3, cp3, rfl, hle3⟩ := owns_len hown'; go_must (have B3 : Blk w3 w.heap.size #[v] 83 := (hg3.block _ (by simp; omega) (fun h => nv h.symm)).trans ((Below.heap_alloc _ _ _ (by omega)).trans hv1); have c3 := B3.cell 0 rfl; have f3 := B3.free; have HG3 := Lib.hid hg3; have HO3 := Lib.hid hown'; clear hg3 hown' nv))
    have hrow := HO3.out;have hgr := HG3.out;have hkk : Keeps (fun b => w.heap.size + 1 ≤ b) W2 w3 := (Keeps.alloc _ _ _).trans ((Keeps.grown _ hgr).mono fun b _ h => (HV.out.lt b h.symm).1);have hk4 : Keeps (fun b => w.heap.size ≤ b) W2 (w3.setCell ⟨w.heap.size, 0, none⟩ (.slice a3 (pre.length + 1) cp3)) := (hkk.mono fun b _ h => by omega).trans (Keeps.setCell _ _ _ (Nat.le_refl _));have hnew : ∀ g, (Value.slice a3 (pre.length + 1) cp3).ownBlock = some g → ¬ O g := fun g hg hO => by
      rcases HAT.out with h | h
      · rw [h] at hg; exact hv3 g hg hO
      · rw [h] at hg; cases hg;have := HI2.out.old _ hO;simp at this
        omega
    refine ⟨⟨⟨HI2.out.low.low.trans hk4.low, fun b hb hO => (hk4.same b (Nat.lt_of_lt_of_le hb HI2.out.low.size) (by omega)).trans (HI2.out.low.same b hb hO)⟩, HI2.out.up, Nat.le_trans hbig hk4.size, fun b hb => Nat.lt_of_lt_of_le (HI2.out.old b hb) hk4.size, .slice a3 (pre.length + 1) cp3, ?_, ?_, hnew⟩, ?_⟩
    · have := B3.set 0 (.slice a3 (pre.length + 1) cp3)
      simpa using this
    · have := owns_keeps hrow (Keeps.setCell (O := fun b => b = w.heap.size) w3 ⟨w.heap.size, 0, none⟩ (.slice a3 (pre.length + 1) cp3) rfl) (fun g hg h => by have := (hrow.lt g hg).1; omega)
      simpa using this
    · have hk5 : Keeps (fun b => some b = v.ownBlock ∨ b = w.heap.size) W2 (w3.setCell ⟨w.heap.size, 0, none⟩ (.slice a3 (pre.length + 1) cp3)) := ((Keeps.alloc _ _ _).trans ((Keeps.grown _ hgr).mono fun b _ h => .inl h)).trans (Keeps.setCell _ _ _ (.inr rfl));refine hk5.mono fun b hb h => ?_
      rcases h with h | h
      · exact ⟨hv3 b h.symm, fun hRb => by have := hR b hRb; have := (HV.out.lt b h.symm).1; omega⟩
      · subst h; exact ⟨nB, fun hRb => by have := hR _ hRb; omega⟩
  · intro D O xs W hall hi hSO hOD hD hDW;obtain ⟨v, hv1, hv2, hv3⟩ := hi.box;have c0 := hv1.cell 0 rfl;simp only [Exit.inBlock, Exit.then];obtain ⟨a, cp, rfl, hle, hints⟩ := owns_ints hv2 (by have := hA xs hall; omega);have hDw : D ≠ w.heap.size := fun h => by rcases hi.up D hOD with h' | h'; have := hS D h'; omega; omega
    go_wp2_with fail
    have hk1 : Keeps (fun b => b = D) W (W.putObj D (.deferred none)) := Keeps.putObj _ _ _ rfl;have hDl : w.heap.size + 1 ≤ D := by simpa using hD
    refine leave_mark (v := .slice a xs.length cp) rfl hDW (by simp [results, Try.results53, go_sem]) ⟨a, cp, xs, hall, rfl, hle, ⟨hints.1, fun i hi' => ?_⟩, ⟨hi.low.low.trans hk1.low, fun b hb hO => (hk1.same b (Nat.lt_of_lt_of_le hb hi.low.size) (by omega)).trans (hi.low.same b hb (fun h => by rcases hi.up b h with h' | h'; exact hO h'; omega))⟩⟩;obtain ⟨b, o, e, hlt, hc⟩ := hints.2 i hi';refine ⟨b, o, e, by simpa using hlt, ?_⟩;have hbD : b ≠ D := fun h => by
      subst h;exact hv3 b (by rw [e]; rfl) hOD
    rw [World.cell?_of_block (w := W) (hk1.same b hlt hbD)];exact hc
set_option maxHeartbeats 400000 in
theorem collect_any (gf : Nat) (lb : Array Value) (Part All : List Int → Prop) (S R : Nat → Prop) (N : Nat) (w : World) (hN : N ≤ 17592186044415) (hP : ∀ xs, Part xs → xs.length ≤ N) (hA : ∀ xs, All xs → xs.length ≤ N)
    (eg : ∀ args w, (callFunc gf args).run Try.prog w = .ok (.enter gf args) w)
    (hS : ∀ b, S b → b < w.heap.size) (hR : ∀ b, R b → b < w.heap.size) (hit : IteratesP Try.prog gf lb Part All (fun c : Int => #[.int .i64 c]) S R w) :
    Calls Try.prog 44 #[.func (.func gf) #[] lb] w (CollPost S All w) := by
  have H := Lib.hid (appendSeq_any gf lb Part All S R N w hN hP hA eg hS hR hit)
  clear hN hP hA eg hS hR hit
  go_enter Try.func44, Try.ntmps44
  go_wp2_with ((refine H.out.mono ?_); rintro en w1 ⟨a, cp, xs, hall, rfl, hle, hints, hk⟩)
  go_ret
  exact ⟨a, cp, xs, hall, rfl, hle, hints, hk⟩
def minL : List Int → Int → Int
  | [], m => m
  | x :: tl, m => minL tl (min m x)
theorem minL_snoc (x : Int) : ∀ (l : List Int) (m : Int), minL (l ++ [x]) m = min (minL l m) x
  | [], m => rfl
  | y :: tl, m => minL_snoc x tl (min m y)
theorem minL_le : ∀ (l : List Int) (m : Int), minL l m ≤ m ∧ (∀ x ∈ l, minL l m ≤ x) ∧ (minL l m = m ∨ minL l m ∈ l)
  | [], m => ⟨Int.le_refl _, fun x hx => (by cases hx), .inl rfl⟩
  | y :: tl, m => by
    obtain ⟨h1, h2, h3⟩ := minL_le tl (min m y);simp only [minL];refine ⟨by omega, fun x hx => ?_, ?_⟩
    · rcases List.mem_cons.1 hx with rfl | hx
      · omega
      · exact h2 x hx
    · rcases h3 with h | h
      · by_cases q : m ≤ y
        · left; omega
        · right; rw [show min m y = y by omega] at h ⊢; rw [h]; simp
      · exact .inr (List.mem_cons_of_mem _ h)
set_option maxHeartbeats 400000 in
theorem min_any (a : Option Addr) (cp : Nat) (x : Int) (zs : List Int) (w : World) (h : IsInts w a (x :: zs)) :
    Calls Try.prog 43 #[.slice a (x :: zs).length cp] w (Ret w (.int .i64 (minL zs x))) := by
  have hlen := h.1;obtain ⟨b, o, rfl, hlt, hc0⟩ := h.2 0 (by simp);simp only [List.length_cons, List.getElem_cons_zero, Nat.add_zero] at hc0 hlen ⊢;have hcs : ∀ i (hi : i < zs.length), w.cell? ⟨b, o + (i + 1), none⟩ = some (.int .i64 zs[i]) := fun i hi => by
    obtain ⟨b', o', e, _, hc⟩ := h.2 (i + 1) (by simp; omega);obtain ⟨rfl, rfl⟩ : b = b' ∧ o = o' := by simpa using e
    simpa using hc
  have HC := Lib.hid hcs; clear hcs h
  go_enter Try.func43, Try.ntmps43
  go_wp2
  go_loop [4, 3] (fun i m => ∃ k : Nat, k ≤ zs.length ∧ i = .int .i64 ((k : Int) + 1) ∧ m = .int .i64 (minL (zs.take k) x)) (fun i _ => zs.length + 1 - (intOf i).toNat)
  case atStart => exact ⟨0, Nat.zero_le _, rfl, rfl⟩
  case round =>
    obtain ⟨k, hk, rfl, rfl⟩ := hrel
    by_cases hk2 : k < zs.length
    · have hc := HC.out k hk2;have hm : minL (zs.take (k + 1)) x = min (minL (zs.take k) x) zs[k] := by rw [List.take_succ_eq_append_getElem hk2, minL_snoc]
      have HM := Lib.hid hm; clear hm;have ht : ((k : Int) + 1).toNat = k + 1 := by omega
      go_wp2
      all_goals (refine ⟨⟨k + 1, by omega, by go_num, ?_⟩, by simp [intOf]; omega⟩; rw [HM.out]; (try (congr 1; omega)))
    · have hk' : zs.take k = zs := List.take_of_length_le (by omega);have HK := Lib.hid hk'; clear hk'
      go_wp2
      go_ret
      exact ret_int (by rw [HK.out]) (by repeat first | exact Below.refl _ _ | assumption | (refine Below.alloc ?_ (by first | omega | (simp; done) | (simp; omega)) _) | (refine Below.setCell ?_ (by first | omega | (simp; done) | (simp; omega)) _) | (refine Below.drew ?_) | (refine belowDrewN ?_) | (refine Below.trans ?_ (Below.mono (by assumption) (by first | omega | (simp; done) | (simp; omega)))))
end Go.Proofs.Ytjmkjlhnipnkcaa
