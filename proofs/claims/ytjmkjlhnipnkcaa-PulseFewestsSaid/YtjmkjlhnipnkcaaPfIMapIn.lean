/- Ranges over maps of integers, inside a fence. -/
import Derived.Test.YtjmkjlhnipnkcaaPfIMap
import Derived.Sort.MapsRangeIn
set_option linter.unusedSimpArgs false
set_option linter.unusedVariables false
set_option linter.unusedSectionVars false
namespace Go.Proofs.Ytjmkjlhnipnkcaa
open Go.RowKit Go.Shelf Go.Maps
section
variable {F : Fence} {nF : Nat} {P : Program} {k e : TypeId} {κ : Type} [DecidableEq κ] (E : KeyEnc P k κ) (w : World) {ops : Array Oper} {rest : List Oper} {o : Oper} {a : Act} {Q : Exit → Act → World → Prop}
theorem wpListIn_imap_range (hg : o.guard = none) (m : Operand) (t : TypeId) (hop : o.op = Op.range t m) (e : TypeId) (ht : P.underlying t = some (.map k e))
    (b n : Nat) (f : κ → Option Int) (hm : a.eval m = .map (some b)) (h : IMap E e w b n f)
    (hK : ∀ w' cnt, IRange E e w' b w.heap.size n f (fun d => ∃ c, f d = some c) cnt → cnt ≤ n → Below w.heap.size w w' → w'.heap.size = w.heap.size + 1 → wpListIn F nF P ops Q rest (a.put o.dst (.pointer (some ⟨w.heap.size, 0, none⟩))) w') : wpListIn F nF P ops Q (o :: rest) a w := by
  obtain ⟨D, hown, hT⟩ := h;refine wpListIn_range_own w hg m t hop k e E.K ht (plainElem P e) b n D hm hown (fun w' h1 h2 h3 => ?_)
  have hext := Keeps.none h2 (fun _ => False);exact hK w' _ ⟨D, _, h1, hT, fun d hd => by rw [hT.has d hd, Option.isSome_iff_exists]⟩ hown.size_le (hext.to_below (Nat.le_refl _) (fun b h => h.elim)) h3
theorem wpListIn_imap_next (hg : o.guard = none) (it : Operand) (hop : o.op = Op.next it false) (e : TypeId) (he : P.underlying e = some (.int .i64))
    (b r n : Nat) (f : κ → Option Int) (left : κ → Prop) (cnt : Nat) (hit : a.eval it = .pointer (some ⟨r, 0, none⟩)) (h : IRange E e w b r n f left cnt)
    (hDone : (∀ d, E.ok d → ¬ left d) → wpListIn F nF P ops Q rest (a.put o.dst (.tuple #[.bool false])) w)
    (hMore : ∀ (d : κ) (c : Int) (w' : World) (cnt' : Nat), E.ok d → f d = some c → left d → IRange E e w' b r n f (fun y => left y ∧ y ≠ d) cnt' → cnt' < cnt → Keeps (fun y => y = r) w w' → w'.heap.size = w.heap.size →
      (Instr.entry (.pointer (some ⟨r, 0, none⟩))).run P w' = .ok (.tuple #[E.kv d, .int .i64 c]) w' → wpListIn F nF P ops Q rest (a.put o.dst (.tuple #[.bool true, E.kv d, .int .i64 c])) w') :
    wpListIn F nF P ops Q (o :: rest) a w := by
  obtain ⟨D, L, hr, hT, hL⟩ := h;refine wpListIn_next_ranges w hg it hop k E.K (plainElem P e) E.kv (Value.int .i64) (fun key kl hkey => by obtain ⟨x, _, rfl⟩ := E.dec key kl hkey; exact ⟨x, rfl⟩)
    (fun v y hv => by obtain ⟨c, rfl, _⟩ := plainElem_int_inv he hv; exact ⟨c, rfl⟩) b r n D L cnt hit hr (fun _ hl => hDone (fun d hd hh => by have := (hL d hd).1 hh; rw [hl] at this; cases this)) ?_
  intro d c kl y w' cnt' hkey hlk hv hat hrg hlt hgr hsz hen;obtain ⟨d', h1, h2, h3⟩ := E.dec' hkey;obtain rfl := E.inj _ _ h2;subst h3;obtain ⟨c', ec, ey, hwc⟩ := plainElem_int_inv he hv;cases ec
  have hf : f d = some c := by
    have hh : Maps.has D (E.kl d) = true := has_true_of_atKey hat;rw [hT.has d h1] at hh;obtain ⟨c', hc⟩ := Option.isSome_iff_exists.1 hh;have := (hT.to d c' hc).2.2 .nil;rw [hat, ey] at this;cases this
    exact hc
  refine hMore d c w' cnt' h1 hf ((hL d h1).2 hlk) ⟨D, _, hrg, hT, fun x hx => ?_⟩ hlt (Keeps.one hgr) hsz hen;dsimp only;rw [hL x hx];simp only [Bool.and_eq_true, Bool.not_eq_true', ne_eq]
  constructor
  · rintro ⟨q1, q2⟩
    exact ⟨q1, sameKey_ne (fun e => q2 (E.klinj hx h1 e))⟩
  · rintro ⟨q1, q2⟩
    refine ⟨q1, fun e => ?_⟩;subst e;rw [WideAt.sameKey_self (E.isKey hx)] at q2;cases q2
end
end Go.Proofs.Ytjmkjlhnipnkcaa
