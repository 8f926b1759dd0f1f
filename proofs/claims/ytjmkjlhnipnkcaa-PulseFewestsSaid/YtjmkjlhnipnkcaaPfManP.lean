/- Contracts of pulse that were proved by hand, in the form of the symbolic ones. -/
import Derived.Test.YtjmkjlhnipnkcaaPfSymRMJ
import Derived.Test.YtjmkjlhnipnkcaaPfPulseRun
import Derived.Test.YtjmkjlhnipnkcaaPfPulseBackAny
import Derived.Test.YtjmkjlhnipnkcaaPfPulseCorr
import Derived.Test.YtjmkjlhnipnkcaaPfFewAny
import Derived.Test.YtjmkjlhnipnkcaaPfPulseKnown
set_option linter.unusedSimpArgs false
set_option linter.unusedVariables false
namespace Go.Proofs.Ytjmkjlhnipnkcaa.Sy
open Go.RowKit
theorem FC.of_calls {P : Program} {f : Nat} {args : List AV} {need : List NEnt} {v : AV} (h : ∀ (env : Env) (w0 : World) (R0 : Nat → Prop), (∀ x ∈ need, x.holds env w0 (fun _ => False) R0) → (∀ b, R0 b → b < w0.heap.size) →
    Calls P f (AV.denL env args).toArray w0 (fun e w' => e = .returned (v.den env) ∧ Below w0.heap.size w0 w')) : FC P f args need v [] :=
  fun env w0 R0 hn hR => (h env w0 R0 hn hR).mono fun e w' ⟨he, hb⟩ => ⟨_, he, env, fun _ _ => False, R0, fun _ _ => rfl, rfl, ⟨Keep.of_below hb, by simp, by simp, by simp, fun b hb' => ⟨Nat.lt_of_lt_of_le (hR b hb') hb.size, .inr (.inl hb')⟩, fun _ h => h, by simp⟩⟩
theorem reads_pairs {fs : List (Int × Int)} {W : World} {R : Nat → Prop} {v : Value} (hR : ∀ b, R b → b < W.heap.size) (hl : fs.length ≤ 140737488355327) (h : reads 2 (List.map (fun x : Int × Int => [D.v (.int .i64 x.1), D.v (.int .i64 x.2)]) fs) W R v) :
    ∃ a cap, v = .slice a fs.length cap ∧ fs.length ≤ cap ∧ IsPairs W a fs := by
  obtain ⟨a, cap, hv, hle, hm, _, hc⟩ := h;rw [List.length_map] at hv hle;refine ⟨a, cap, hv, hle, hl, fun i hi => ?_⟩;obtain ⟨_, h2⟩ := hc i _ (by rw [List.getElem?_map, List.getElem?_eq_getElem hi]; rfl);obtain ⟨b, o, ha, hb, u, hu, hd, _⟩ := h2 0 _ rfl;obtain ⟨b', o', ha', hb', u', hu', hd', _⟩ := h2 1 _ rfl;rw [ha] at ha'; cases ha';cases hd; cases hd'
  exact ⟨b, o, ha, hR b hb, hu, hu'⟩
def wf64 (z : Int) : Bool := (Lit.int .i64 z).wf
open Classical in
noncomputable def fewVal (l : Pu.Ln) (sh f : Int) (fs : List (Int × Int)) : Int × Int := if h : ∃ r : Int × Int, Pu.FewOut l sh f fs r.1 r.2 ∧ ∀ n e, Pu.FewOut l sh f fs n e → (n, e) = r then h.choose else (0, 0)
noncomputable def ev_pulse_Fewest (n : Nat) (p1 p2 p3 sh f : Int) (fs : List (Int × Int)) : Option (Int × Int) :=
  chk (decide (fs.length ≤ 140737488355327)) <| chk (wf64 p1) <| chk (wf64 p2) <| chk (wf64 p3) <| chk (@decide (∀ n e n' e', Pu.FewOut ⟨p1, p2, p3⟩ sh f fs n e → Pu.FewOut ⟨p1, p2, p3⟩ sh f fs n' e' → (n, e) = (n', e')) (Classical.propDecidable _)) <| some (fewVal ⟨p1, p2, p3⟩ sh f fs)
theorem few_val {l : Pu.Ln} {sh f : Int} {fs : List (Int × Int)} {n e : Int} (hu : ∀ n e n' e', Pu.FewOut l sh f fs n e → Pu.FewOut l sh f fs n' e' → (n, e) = (n', e')) (h : Pu.FewOut l sh f fs n e) : fewVal l sh f fs = (n, e) := by
  unfold fewVal;have hx : ∃ r : Int × Int, Pu.FewOut l sh f fs r.1 r.2 ∧ ∀ n e, Pu.FewOut l sh f fs n e → (n, e) = r := ⟨(n, e), h, fun n' e' h' => hu _ _ _ _ h' h⟩;rw [dif_pos hx];exact (hx.choose_spec.2 n e h).symm
theorem fc_pulse_Fewest {n : Nat} {p1 p2 p3 sh f : Int} {fs : List (Int × Int)} {r : Int × Int} (h : ev_pulse_Fewest n p1 p2 p3 sh f fs = some r) :
    FC Try.prog 23 [.agg [.val (.int .i64 p1), .val (.int .i64 p2), .val (.int .i64 p3)], .val (.int .i64 sh), .val (.int .i64 f), .ref 0] [.ro 0 2 (List.map (fun x : Int × Int => [D.v (.int .i64 x.1), D.v (.int .i64 x.2)]) fs)] (.tup [.val (.int .i64 r.1), .val (.int .i64 r.2)]) [] := by
  obtain ⟨h0, h⟩ := chk_inv h;obtain ⟨h1, h⟩ := chk_inv h;obtain ⟨h2, h⟩ := chk_inv h;obtain ⟨h3, h⟩ := chk_inv h;obtain ⟨h4, h⟩ := chk_inv h;cases h;refine FC.of_calls fun env w0 R0 hn hR => ?_
  obtain ⟨a, cap, hv, hle, hp⟩ := reads_pairs hR (of_decide_eq_true h0) (hn _ (List.mem_singleton.2 rfl));have := fewest_any p1 p2 p3 sh f a cap fs w0 h1 h2 h3 hp;simp only [AV.denL, AV.den, hv, oneOf];refine this.mono ?_
  rintro e w' ⟨n, er, rfl, hb, ho⟩
  have := few_val (@of_decide_eq_true _ (Classical.propDecidable _) h4) ho;rw [this];exact ⟨rfl, hb⟩
def ev_law09_known (n : Nat) : Option Bool := some true
theorem fc_law09_known {n : Nat} {r : Bool} (h : ev_law09_known n = some r) : FC Try.prog 7 [] [] (.val (.bool r)) [] := by
  cases h;exact FC.of_calls fun env w0 R0 hn hR => known_any w0
end Go.Proofs.Ytjmkjlhnipnkcaa.Sy
