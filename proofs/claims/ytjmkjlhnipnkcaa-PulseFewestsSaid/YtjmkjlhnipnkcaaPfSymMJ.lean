/- Texts joined into one: SymM, SymN, SymP, SymQ, SymR, SymS, SymT, SymU, SymV, SymW, SymX, SymY, SymZ, SymPt, SymRR, SymRS, SymTu, SymBe, SymGr. -/
import Derived.Test.YtjmkjlhnipnkcaaPfSymEJ
import Derived.RangeFuncIn
import Derived.RangeFuncLeaves
import Derived.RangeFuncNested
import Derived.Laws.OwnMore
import Derived.Shelf.Slices.CompactI
import Derived.Shelf.Sort.Plain
import Derived.Shelf.Slices.In.SortNone
import Derived.Shelf.Spec.SlicesGrow
section
set_option linter.unusedSimpArgs false
set_option linter.unusedVariables false
namespace Go.Proofs.Ytjmkjlhnipnkcaa.Sy
open Go.RowKit
theorem ro_holds {x : NEnt} (hx : x.isRoB = true) {e : Env} {W : World} {O R : Nat → Prop} (h : x.holds e W O R) (O' : Nat → Prop) : x.holds e W O' R := by
  cases x with
  | row n E size els => cases hx
  | blk n cells T => cases hx
  | inv n I => cases hx
  | ro n size els => exact h
  | rob n cells T => exact h
  | any n d => exact h
  | pin g n u => exact h
theorem St.over {c : Ctx} {env env' : Env} {V take news : List NEnt} {W W' : World} {O O' : Nat → Nat → Prop} {R R' M1 : Nat → Prop} (h : St c env V W O R) (ht : ∀ x ∈ take, x ∈ V) (hM : ∀ b, M1 b → ∃ x ∈ take, O x.name b)
    (hg : St ⟨W, M1, R⟩ env' news W' O' R') (he : ∀ n, (∀ y ∈ news, y.name ∉ take.map NEnt.name → y.name ≠ n) → env' n = env n) (hf : ∀ y ∈ news, y.name ∈ take.map NEnt.name ∨ hasV y.name V = false) :
    ∃ O2, St c env' (news ++ delV (take.map NEnt.name) V) W' O2 R' := by
  have hnv : ∀ x ∈ news, ∀ z ∈ delV (take.map NEnt.name) V, x.name ≠ z.name := by
    intro x hx z hz e;obtain ⟨hz, hzt⟩ := mem_delV.1 hz;rcases hf x hx with h1 | h1
    · exact hzt (e ▸ h1)
    · rw [mem_has hz (by rw [e]; exact NEnt.has_name z)] at h1; cases h1
  have hev : ∀ n, hasV n V = true → env' n = env n := fun n hn => he n fun y hy hyt e => by
    rcases hf y hy with h1 | h1
    · exact hyt h1
    · subst e; rw [h1] at hn; cases hn
  have hnm : ∀ z ∈ delV (take.map NEnt.name) V, ∀ b, O z.name b → ¬ M1 b := by
    intro z hz b hb hm;obtain ⟨hz, hzt⟩ := mem_delV.1 hz;obtain ⟨x, hx, hxb⟩ := hM b hm;exact h.apart z hz x (ht x hx) (fun e => hzt (List.mem_map.2 ⟨x, hx, e.symm⟩)) b ⟨hb, hxb⟩
  have hrm : ∀ b, R b → ¬ M1 b := by
    intro b hb hm;obtain ⟨x, hx, hxb⟩ := hM b hm;exact (h.own x (ht x hx) b hxb).2.2 hb
  have hmo : ∀ b, M1 b → b < W.heap.size ∧ (c.w0.heap.size ≤ b ∨ c.M b) := by
    intro b hm;obtain ⟨x, hx, hxb⟩ := hM b hm;exact ⟨(h.own x (ht x hx) b hxb).1, (h.own x (ht x hx) b hxb).2.1⟩
  classical
  refine ⟨fun n b => if (∃ x ∈ news, x.name = n) then O' n b else O n b, ⟨h.keep.trans hg.keep (fun i hi hm => ?_), ?_, ?_, ?_, ?_, ?_, ?_⟩⟩
  · rcases (hmo i hm).2 with h1 | h1
    · omega
    · exact h1
  · intro x hx;rcases List.mem_append.1 hx with hx | hx
    · have : ∃ y ∈ news, y.name = x.name := ⟨x, hx, rfl⟩
      simpa only [this, if_true] using hg.holds x hx
    · have hno : ¬ ∃ y ∈ news, y.name = x.name := fun ⟨y, hy, e⟩ => hnv y hy x hx e
      have hxV := (mem_delV.1 hx).1;simp only [hno, if_false];refine NEnt.holds_congr (fun n hn => (hev n (mem_has hxV hn)).symm) (NEnt.holds_keep (fun b hb => ?_) (fun b hb => ?_) (h.holds x hxV))
      · exact hg.keep.block b (h.own x hxV b hb).1 (hnm x hx b hb)
      · exact ⟨hg.r0 b hb, hg.keep.block b (h.ro b hb).1 (hrm b hb)⟩
  · intro x hx b hb;rcases List.mem_append.1 hx with hx | hx
    · have : ∃ y ∈ news, y.name = x.name := ⟨x, hx, rfl⟩;simp only [this, if_true] at hb;obtain ⟨h1, h2, h3⟩ := hg.own x hx b hb;refine ⟨h1, ?_, h3⟩;rcases h2 with h2 | h2
      · exact .inl (Nat.le_trans h.keep.size h2)
      · exact (hmo b h2).2
    · have hno : ¬ ∃ y ∈ news, y.name = x.name := fun ⟨y, hy, e⟩ => hnv y hy x hx e
      have hxV := (mem_delV.1 hx).1;simp only [hno, if_false] at hb;obtain ⟨h1, h2, h3⟩ := h.own x hxV b hb;refine ⟨Nat.lt_of_lt_of_le h1 hg.keep.size, h2, fun hr => ?_⟩;rcases (hg.ro b hr).2 with h4 | h4 | h4
      · have : W.heap.size ≤ b := h4; omega
      · exact h3 h4
      · exact hnm x hx b hb h4
  · intro x hx y hy hne b ⟨h1, h2⟩
    by_cases ex : ∃ z ∈ news, z.name = x.name <;> by_cases ey : ∃ z ∈ news, z.name = y.name <;> simp only [ex, ey, if_true, if_false] at h1 h2
    · obtain ⟨x', hx', e1⟩ := ex; obtain ⟨y', hy', e2⟩ := ey;rw [← e1] at h1; rw [← e2] at h2;exact hg.apart x' hx' y' hy' (by rw [e1, e2]; exact hne) b ⟨h1, h2⟩
    · obtain ⟨x', hx', e1⟩ := ex;have hyD : y ∈ delV (take.map NEnt.name) V := (List.mem_append.1 hy).resolve_left fun h => ey ⟨y, h, rfl⟩
      have hyV := (mem_delV.1 hyD).1;rw [← e1] at h1;have := (hg.own x' hx' b h1).2.1;have h3 := (h.own y hyV b h2).1;rcases this with h4 | h4
      · have : W.heap.size ≤ b := h4; omega
      · exact hnm y hyD b h2 h4
    · obtain ⟨y', hy', e2⟩ := ey;have hxD : x ∈ delV (take.map NEnt.name) V := (List.mem_append.1 hx).resolve_left fun h => ex ⟨x, h, rfl⟩
      have hxV := (mem_delV.1 hxD).1;rw [← e2] at h2;have := (hg.own y' hy' b h2).2.1;have h3 := (h.own x hxV b h1).1;rcases this with h4 | h4
      · have : W.heap.size ≤ b := h4; omega
      · exact hnm x hxD b h1 h4
    · have hxV : x ∈ V := (mem_delV.1 ((List.mem_append.1 hx).resolve_left fun h => ex ⟨x, h, rfl⟩)).1;have hyV : y ∈ V := (mem_delV.1 ((List.mem_append.1 hy).resolve_left fun h => ey ⟨y, h, rfl⟩)).1;exact h.apart x hxV y hyV hne b ⟨h1, h2⟩
  · intro b hb;obtain ⟨h1, h2⟩ := hg.ro b hb;refine ⟨h1, ?_⟩;rcases h2 with h2 | h2 | h2
    · exact .inl (Nat.le_trans h.keep.size h2)
    · exact (h.ro b h2).2
    · exact (hmo b h2).2.elim .inl fun h => .inr (.inr h)
  · intro b hb;exact hg.r0 b (h.r0 b hb)
  · rw [List.map_append, List.nodup_append];refine ⟨hg.names, h.names.sublist ((delV_sub _ _).map NEnt.name), fun a ha b hb e => ?_⟩;obtain ⟨x, hx, rfl⟩ := List.mem_map.1 ha;obtain ⟨y, hy, rfl⟩ := List.mem_map.1 hb;exact hnv x hx y hy e
def PostT (c : Ctx) (env : Env) (tn : List Nat) (v : AV) (news : List NEnt) (e : Ending) (W' : World) : Prop :=
  ∃ u, e = .returned u ∧ ∃ env' O' R', (∀ n, (∀ y ∈ news, y.name ∉ tn → y.name ≠ n) → env' n = env n) ∧ u = v.den env' ∧ St c env' news W' O' R'
def FT (P : Program) (f : Nat) (args : List AV) (take need : List NEnt) (v : AV) (news : List NEnt) : Prop :=
  ∀ (env : Env) (w0 : World) (M : Nat → Prop) (O : Nat → Nat → Prop) (R0 : Nat → Prop), St ⟨w0, M, R0⟩ env take w0 O R0 → (∀ x ∈ need, x.isRoB = true ∧ x.holds env w0 (fun _ => False) R0) →
    Calls P f (AV.denL env args).toArray w0 (PostT ⟨w0, M, R0⟩ env (take.map NEnt.name) v news)
theorem FT.apply {P : Program} {f : Nat} {args : List AV} {take need news : List NEnt} {v : AV} (h : FT P f args take need v news) {c : Ctx} {env : Env} {V : List NEnt} {W : World} {O : Nat → Nat → Prop} {R : Nat → Prop} (hst : St c env V W O R)
    (ht : ∀ x ∈ take, x ∈ V) (hk : ∀ x ∈ need, x ∈ V) (hro : need.all NEnt.isRoB = true) (hnd : nodupB (take.map NEnt.name) = true) (hf : ∀ y ∈ news, y.name ∈ take.map NEnt.name ∨ hasV y.name V = false) :
    Calls P f (AV.denL env args).toArray W fun e W' => ∃ u, e = .returned u ∧ ∃ env' O2 R', (∀ n, (∀ y ∈ news, y.name ∉ take.map NEnt.name → y.name ≠ n) → env' n = env n) ∧ u = v.den env' ∧ St c env' (news ++ delV (take.map NEnt.name) V) W' O2 R' := by
  have hroA : ∀ x ∈ need, x.isRoB = true := fun x hx => List.all_eq_true.1 hro x hx
  have hst1 : St ⟨W, fun b => ∃ x ∈ take, O x.name b, R⟩ env take W O R := by
    refine ⟨Keep.refl _ _, fun x hx => hst.holds x (ht x hx), fun x hx b hb => ?_, fun x hx y hy hne b hb => hst.apart x (ht x hx) y (ht y hy) hne b hb, fun b hb => ⟨(hst.ro b hb).1, .inr (.inl hb)⟩, fun _ h => h, nodup_of_B hnd⟩;obtain ⟨h1, h2, h3⟩ := hst.own x (ht x hx) b hb;exact ⟨h1, .inr ⟨x, hx, hb⟩, h3⟩
  refine (h env W _ _ R hst1 fun x hx => ⟨hroA x hx, ro_holds (hroA x hx) (hst.holds x (hk x hx)) _⟩).mono ?_
  rintro e W' ⟨u, he, env', O', R', h1, h2, h3⟩
  obtain ⟨O2, h4⟩ := hst.over ht (fun b hb => hb) h3 h1 hf;exact ⟨u, he, env', O2, R', h1, h2, h4⟩
theorem FT.at {P : Program} {f : Nat} {args : List AV} {take need news : List NEnt} {v : AV} (p q : Nat → Nat) (h : FT P f args take need v news) (hq : (news.map fun x => q x.name).Nodup) (hcl : closedN v news = true)
    (hpq : ((news.map NEnt.name).all fun n => if (take.map NEnt.name).contains n then q n == p n else !((take.map fun x => p x.name).contains (q n))) = true) :
    FT P f (AV.renL p args) (take.map (NEnt.ren p)) (need.map (NEnt.ren p)) (v.ren q) (news.map (NEnt.ren q)) := by
  classical
  intro env w0 M O R0 hst hnd;rw [AV.denL_ren];have htn : (take.map (NEnt.ren p)).map NEnt.name = take.map fun x => p x.name := by
    rw [List.map_map]; congr 1; funext x; exact NEnt.name_ren p x
  have hst' : St ⟨w0, M, R0⟩ (fun n => env (p n)) take w0 (fun n => O (p n)) R0 := hst.sub p (fun x hx => List.mem_map.2 ⟨x, hx, rfl⟩) (by rw [← htn]; exact hst.names);refine (h (fun n => env (p n)) w0 M _ R0 hst' (fun x hx => ?_)).mono ?_
  · have := hnd (x.ren p) (List.mem_map.2 ⟨x, hx, rfl⟩);rw [NEnt.holds_ren] at this;exact ⟨by have := this.1; cases x <;> first | rfl | exact this, this.2⟩
  rintro e W' ⟨u, he, env', O', R', h1, h2, hst2⟩
  have hcl' : ∀ n, (n ∈ v.ns ∨ ∃ x ∈ news, n ∈ x.ns) → ∃ x ∈ news, x.name = n := by
    intro n hn;have := List.all_eq_true.1 hcl n (by rw [List.mem_append, List.mem_flatMap]; exact hn)
    simpa [List.mem_map] using this
  have hinj := nodup_map_name hq
  let inv : Nat → Nat := fun k => if h : ∃ x ∈ news, q x.name = k then (Classical.choose h).name else k
  have hinv : ∀ x ∈ news, inv (q x.name) = x.name := by
    intro x hx;have hex : ∃ y ∈ news, q y.name = q x.name := ⟨x, hx, rfl⟩;simp only [inv, hex, dif_pos];obtain ⟨g1, g2⟩ := Classical.choose_spec hex
    cases Classical.em ((Classical.choose hex).name = x.name) with
    | inl e => exact e
    | inr e => exact absurd g2 (hinj _ g1 x hx e)
  let env2 : Env := fun k => if ∃ x ∈ news, q x.name = k then env' (inv k) else env k
  have henv2 : ∀ n, (n ∈ v.ns ∨ ∃ x ∈ news, n ∈ x.ns) → env2 (q n) = env' n := by
    intro n hn;obtain ⟨x, hx, rfl⟩ := hcl' n hn;have hex : ∃ y ∈ news, q y.name = q x.name := ⟨x, hx, rfl⟩;simp only [env2, hex, if_true, hinv x hx]
  have hpq' : ∀ x ∈ news, (x.name ∈ take.map NEnt.name → q x.name = p x.name) ∧ (x.name ∉ take.map NEnt.name → q x.name ∉ take.map fun x => p x.name) := by
    intro x hx;have := List.all_eq_true.1 hpq x.name (List.mem_map.2 ⟨x, hx, rfl⟩)
    by_cases ht : x.name ∈ take.map NEnt.name
    · simp only [List.contains_eq_mem, ht, decide_true, if_true, beq_iff_eq] at this;exact ⟨fun _ => this, fun h => absurd ht h⟩
    · simp only [List.contains_eq_mem, ht, decide_false, Bool.false_eq_true, if_false, Bool.not_eq_true', decide_eq_false_iff_not] at this;exact ⟨fun h => absurd h ht, fun _ => this⟩
  refine ⟨u, he, env2, fun k => O' (inv k), R', fun n hn => ?_, ?_, hst2.keep, fun y hy => ?_, fun y hy b hb => ?_, fun y hy z hz hne b hb => ?_, hst2.ro, hst2.r0, ?_⟩
  · by_cases hx : ∃ x ∈ news, q x.name = n
    · obtain ⟨x, hx, e⟩ := hx;have e1 : env2 n = env' x.name := by rw [← e]; exact henv2 _ (.inr ⟨x, hx, NEnt.has_ns (NEnt.has_name x)⟩)
      by_cases ht : x.name ∈ take.map NEnt.name
      · have e2 := (hpq' x hx).1 ht;rw [e1, h1 x.name fun y hy hyt e3 => hyt (e3 ▸ ht)];show env (p x.name) = env n;rw [← e2, e]
      · exact absurd e (by
          have := hn (x.ren q) (List.mem_map.2 ⟨x, hx, rfl⟩) (by rw [NEnt.name_ren, htn]; exact (hpq' x hx).2 ht);rw [NEnt.name_ren] at this; exact this)
    · simp only [env2, hx, if_false]
  · rw [h2, AV.den_ren];exact AV.den_congr v fun n hn => (henv2 n (.inl (AV.has_ns v hn))).symm
  · obtain ⟨x, hx, rfl⟩ := List.mem_map.1 hy;rw [NEnt.holds_ren, NEnt.name_ren, hinv x hx];exact NEnt.holds_congr (fun n hn => (henv2 n (.inr ⟨x, hx, NEnt.has_ns hn⟩)).symm) (hst2.holds x hx)
  · obtain ⟨x, hx, rfl⟩ := List.mem_map.1 hy;rw [NEnt.name_ren, hinv x hx] at hb;exact hst2.own x hx b hb
  · obtain ⟨x, hx, rfl⟩ := List.mem_map.1 hy;obtain ⟨x2, hx2, rfl⟩ := List.mem_map.1 hz;rw [NEnt.name_ren, hinv x hx, NEnt.name_ren, hinv x2 hx2] at hb;rw [NEnt.name_ren, NEnt.name_ren] at hne;exact hst2.apart x hx x2 hx2 (fun e => hne (by rw [e])) b hb
  · rw [List.map_map];have : (NEnt.name ∘ NEnt.ren q) = fun x => q x.name := by funext x; exact NEnt.name_ren q x
    rw [this]; exact hq
theorem FT.nil {P : Program} {f : Nat} {args : List AV} {take need news : List NEnt} {v : AV} (k size : Nat) (h : FT P f args take (.ro k size [] :: need) v news) (ht : hasV k take = false) (hk : hasV k need = false) (hv : v.has k = false) (hn : hasV k news = false) :
    FT P f (AV.nlL k args) take need v news := by
  intro env w0 M O R0 hst hnd;rw [AV.denL_nl];have hst' : St ⟨w0, M, R0⟩ (setEnv env k (.slice none 0 0)) take w0 O R0 := ⟨hst.keep, fun x hx => NEnt.holds_congr (fun n hn' => (setEnv_other fun e => by subst e; rw [hasV_mem ht hx] at hn'; cases hn').symm) (hst.holds x hx), hst.own, hst.apart, hst.ro, hst.r0, hst.names⟩;refine (h (setEnv env k (.slice none 0 0)) w0 M O R0 hst' (fun x hx => ?_)).mono ?_
  · rcases List.mem_cons.1 hx with rfl | hx
    · simp only [NEnt.holds, setEnv_same];exact ⟨rfl, none, 0, rfl, Nat.le_refl _, Nat.zero_le _, fun _ => rfl, by simp⟩
    · exact ⟨(hnd x hx).1, NEnt.holds_congr (fun n hn' => (setEnv_other fun e => by subst e; rw [hasV_mem hk hx] at hn'; cases hn').symm) (hnd x hx).2⟩
  rintro e W' ⟨u, he, env', O', R', h1, h2, hst2⟩
  have hc : ∀ n, n ≠ k → setEnv env' k (env k) n = env' n := fun n hne => setEnv_other (Ne.symm hne)
  refine ⟨u, he, setEnv env' k (env k), O', R', fun n hn' => ?_, ?_, hst2.keep, fun x hx => ?_, hst2.own, hst2.apart, hst2.ro, hst2.r0, hst2.names⟩
  · by_cases e : n = k
    · subst e; rw [setEnv_same]
    · rw [hc n e, h1 n hn', setEnv_other (Ne.symm e)]
  · rw [h2];exact AV.den_congr v fun n hn' => (hc n fun e => by subst e; rw [hv] at hn'; cases hn').symm
  · exact NEnt.holds_congr (fun n hn' => (hc n fun e => by subst e; rw [hasV_mem hn hx] at hn'; cases hn').symm) (hst2.holds x hx)
section
variable {P : Program} {s : List (Nat × AV)} {o : Oper}
end
def freshT (tn : List Nat) (news : List NEnt) (s : List (Nat × AV)) (V : List NEnt) : Bool := news.all fun x => tn.contains x.name || (!hasS x.name s && !hasV x.name V)
section
variable {P : Program} {c : Ctx} {sz : Fm} {Q : Exit → Act → World → Prop} {t : List Item} {s : List (Nat × AV)} {V V' : List NEnt} {ops : Array Oper} {rest : List Oper} {o : Oper}
theorem opT {take need : List NEnt} {v : AV} {news : List NEnt} (is js : List Nat) (hs : TSpec P o (rho s) take need v news) (hw : Wanted ops s o) (hlt : (match o.dst with | some d => Nat.blt d sz.sz | none => true) = true) (ht : At V is take) (hn : At V js need)
    (hf : freshT (take.map NEnt.name) news s V = true) (hV : news ++ delV (take.map NEnt.name) V = V') (k : TL P c sz Q ops rest t (putS o v s) V') : TL P c sz Q ops (o :: rest) t s V := by
  subst hV;intro env tm W O R hfr hst;have hf' : ∀ x ∈ news, x.name ∈ take.map NEnt.name ∨ (hasS x.name s = false ∧ hasV x.name V = false) := by
    intro x hx;have := List.all_eq_true.1 hf x hx
    simpa using this
  unfold wpListIn;rw [if_pos (wanted_of hfr hw)];refine ((hs _ c env V W O R (fun x a hx => rho_eval hfr hx) hst ht.mem hn.mem (fun y hy => (hf' y hy).imp id And.right)).inn ?_)
  rintro u W' ⟨env', O', R', he, rfl, hg⟩
  have hfr' : Fr env' sz.sz s tm := hfr.congr fun n hn => (he n fun y hy hyt e => by
    rcases hf' y hy with h | h
    · exact hyt h
    · subst e; rw [h.1] at hn; cases hn).symm
  unfold putS at k
  cases hd : o.dst with
  | none =>
    rw [hd] at k;exact k env' tm W' O' R' hfr' hg
  | some d =>
    rw [hd] at k hlt;exact k env' _ W' O' R' (hfr'.put (by simpa [Nat.blt_eq] using hlt)) hg
theorem TC.pin (g n : Nat) (hf : (!hasS g s && !hasV g V) = true) (hg : Nat.beq g n = false) (h : ∀ u, TC P c sz Q t s (.pin g n u :: V)) : TC P c sz Q t s V := by
  simp only [Bool.and_eq_true, Bool.not_eq_true'] at hf;intro env tm W O R hfr hst;have hgn : g ≠ n := fun e => by subst e; rw [Nat.beq_refl] at hg; cases hg
  have hst' := hst.addRo (x := .pin g n (env n)) (v := .bool false) hf.2 fun O => by
    simp only [NEnt.holds, NEnt.name, setEnv_other hgn]
  exact h (env n) _ tm W _ R (hfr.congr fun m hm => (setEnv_other fun e => by subst e; simp only [NEnt.name] at hm; rw [hf.1] at hm; cases hm).symm) hst'
def MarksOk (W : World) (O : Nat → Prop) : List Deferred → Prop
  | [] => True
  | d :: ds => (∃ D, d = { target := .collected D, args := #[] } ∧ O D ∧ W.heap[D]? = some (.deferred (some [])) ∧ ∀ d' ∈ ds, d' ≠ d) ∧ MarksOk W O ds
theorem MarksOk.keep {W W' : World} {O O' : Nat → Prop} : ∀ {ds : List Deferred}, MarksOk W O ds → (∀ b, O b → O' b ∧ ((∃ d ∈ ds, d.target = .collected b) → W'.heap[b]? = W.heap[b]?)) → MarksOk W' O' ds := by
  intro ds
  induction ds with
  | nil => intro _ _; trivial
  | cons d ds ih =>
    rintro ⟨⟨D, rfl, h2, h3, h4⟩, h5⟩ hO
    exact ⟨⟨D, rfl, (hO D h2).1, ((hO D h2).2 ⟨{ target := .collected D, args := #[] }, by simp, rfl⟩).trans h3, h4⟩, ih h5 fun b hb => ⟨(hO b hb).1, fun ⟨d, hd, e⟩ => (hO b hb).2 ⟨d, by simp [hd], e⟩⟩⟩
def marksI (ds : List Deferred) : Inv := ⟨fun W O _ _ => MarksOk W O ds, fun W W' O R R' hO _ v h => MarksOk.keep h fun b hb => ⟨hb, fun _ => hO b hb⟩⟩
theorem leaves_marks {fn : Func} {tmps : Array Value} {R : Ending → World → Prop} {O : Nat → Prop} : ∀ (ds : List Deferred) (w : World), MarksOk w O ds → (∀ w', Keep O w w' → ∃ v, (results fn tmps).run P w' = .ok v w' ∧ R (.returned v) w') →
    LeavesInM Fence.wide 0 P fn tmps R ds .returning w := by
  intro ds
  induction ds with
  | nil => intro w _ h; exact h w (Keep.refl _ _)
  | cons d ds ih =>
    rintro w ⟨⟨D, rfl, h2, h3, h4⟩, h5⟩ h
    have hk : Keep O w (w.putObj D (.deferred none)) := ⟨rfl, rfl, rfl, by simp, fun k hk hn => World.putObj_heap_other (fun e => hn (by rw [e]; exact h2))⟩;refine ⟨by simp, .inl ⟨D, _, rfl, run_takeDeferred h3, ih _ ?_ fun w' hk' => h w' (hk.trans hk' fun _ _ h => h)⟩⟩;refine MarksOk.keep h5 fun b hb => ⟨hb, fun ⟨d, hd, e⟩ => World.putObj_heap_other fun e2 => ?_⟩
    subst e2;have key : ∀ ds : List Deferred, MarksOk w O ds → ∀ d ∈ ds, d.target = .collected b → d = { target := .collected b, args := #[] } := by
      intro ds
      induction ds with
      | nil => intro _ d hd; cases hd
      | cons x l ihl =>
        rintro ⟨⟨D', rfl, _⟩, hl⟩ d hd e
        rcases List.mem_cons.1 hd with rfl | hd
        · simp only [Target.collected.injEq] at e; rw [e]
        · exact ihl hl d hd e
    exact h4 d hd (key ds h5 d hd e)
def trivI : Inv := ⟨fun _ _ _ _ => True, fun _ _ _ _ _ _ _ _ _ => trivial⟩
def PinsOk (p : Nat → Nat) (env0 : Env) (V : List NEnt) : List Nat → Prop
  | [] => True
  | n :: l => (∃ g, NEnt.pin g (p n) (env0 n) ∈ V) ∧ PinsOk p env0 V l
theorem PinsOk.at {p : Nat → Nat} {env0 : Env} {V : List NEnt} : ∀ {l : List Nat}, PinsOk p env0 V l → ∀ n ∈ l, ∃ g, NEnt.pin g (p n) (env0 n) ∈ V := by
  intro l
  induction l with
  | nil => intro _ n hn; cases hn
  | cons m l ih =>
    rintro ⟨h1, h2⟩ n hn
    rcases List.mem_cons.1 hn with rfl | hn
    · exact h1
    · exact ih h2 n hn
theorem PostT.mk {env0 env : Env} {W : World} {O : Nat → Nat → Prop} {R : Nat → Prop} {tn ns : List Nat} (hst : St c env V W O R) (p : Nat → Nat) {v rv : AV} {news : List NEnt} (hv : v.ren p = rv) (hV : SubV p V news) (hn : (news.map fun x => p x.name).Nodup) (hcl : closedN v news = true)
    (hp : PinsOk p env0 V ns) (hns : ((news.map NEnt.name).all fun n => !tn.contains n || ns.contains n) = true) : PostT c env0 tn v news (.returned (rv.den env)) W := by
  classical
  have hcl' : ∀ n, (n ∈ v.ns ∨ ∃ x ∈ news, n ∈ x.ns) → ∃ x ∈ news, x.name = n := by
    intro n hn;have := List.all_eq_true.1 hcl n (by rw [List.mem_append, List.mem_flatMap]; exact hn)
    simpa [List.mem_map] using this
  refine ⟨_, rfl, fun n => if ∃ x ∈ news, x.name = n then env (p n) else env0 n, fun n => O (p n), R, fun n hn => ?_, ?_, ?_⟩
  · by_cases hx : ∃ x ∈ news, x.name = n
    · simp only [hx, if_true];obtain ⟨x, hx, e⟩ := hx
      by_cases ht : x.name ∈ tn
      · have h1 := List.all_eq_true.1 hns x.name (List.mem_map.2 ⟨x, hx, rfl⟩);simp only [Bool.or_eq_true, Bool.not_eq_true', List.contains_eq_mem, decide_eq_true_eq, decide_eq_false_iff_not, ht, not_true, false_or] at h1;obtain ⟨g, hg⟩ := hp.at _ h1;have := hst.holds _ hg;simp only [NEnt.holds] at this;rw [← e]; exact this
      · exact absurd e (hn x hx ht)
    · exact if_neg hx
  · subst hv;rw [AV.den_ren];exact AV.den_congr v fun n hn => by rw [if_pos (hcl' n (.inl (AV.has_ns v hn)))]
  · have h2 := hst.sub p hV.mem hn;exact ⟨h2.keep, fun x hx => NEnt.holds_congr (fun n hn => by rw [if_pos (hcl' n (.inr ⟨x, hx, NEnt.has_ns hn⟩))]) (h2.holds x hx), h2.own, h2.apart, h2.ro, h2.r0, h2.names⟩
end
section
variable {P : Program} {c : Ctx} {nz : Nat} {df : List Deferred} {fn : Func} {t : List Item} {s : List (Nat × AV)} {V : List NEnt}
theorem leave_core {env0 : Env} {tn : List Nat} (p : List (Nat × Nat)) (k gm : Nat) (ns : List Nat) {v : AV} {news : List NEnt} {m : List AV} (hk : V[k]? = some (.inv gm (marksI df))) (hr : ResL P s (V.eraseIdx k) fn.results.toList m) (hv : v.ren (rnA p) = resAV m) (hV : SubV (rnA p) (V.eraseIdx k) news)
    (hn : nodupB (news.map fun x => rnA p x.name) = true) (hcl : closedN v news = true) (hp : PinsOk (rnA p) env0 (V.eraseIdx k) ns) (hns : ((news.map NEnt.name).all fun n => !tn.contains n || ns.contains n) = true)
    {env : Env} {tm : Array Value} {W : World} {O : Nat → Nat → Prop} {R : Nat → Prop} (hf : Fr env nz s tm) (hst : St c env V W O R) : LeavesInM Fence.wide 0 P fn tm (PostT c env0 tn v news) df .returning W := by
  have hm : NEnt.inv gm (marksI df) ∈ V := List.mem_of_getElem? hk;refine leaves_marks df W (hst.holds _ hm) fun w' hkp => ?_
  have hst2 := hst.write k (y := .inv gm trivI) hk hkp rfl trivial;have hst3 : St c env (V.eraseIdx k) w' O R := hst2.sub (V' := V.eraseIdx k) id (fun x hx => by
    rw [NEnt.ren_id];obtain ⟨h1, h2⟩ := mem_erase_cases hst.names hk hx;obtain ⟨i, hi⟩ := List.mem_iff_getElem?.1 h1;refine List.mem_iff_getElem?.2 ⟨i, ?_⟩;rw [List.getElem?_set_ne]
    · exact hi
    · intro e; subst e; rw [hk] at hi; cases hi; exact h2 rfl) (by
    simp only [id]; exact hst.names.sublist ((List.eraseIdx_sublist V k).map NEnt.name))
  refine ⟨(resAV m).den env, ?_, PostT.mk hst3 (rnA p) hv hV (nodup_of_B hn) hcl hp hns⟩;have h := results_run hr hf hst3;simp only [results_eq, Array.mapM_eq_mapM_toList, Sem.run_bind, Sem.run_map, h, Result.andThen_ok]
  cases m with
  | nil => rfl
  | cons a m => cases m with
    | nil => rfl
    | cons b m => rfl
theorem endM {env0 : Env} {tn : List Nat} (p : List (Nat × Nat)) (k gm : Nat) (ns : List Nat) {v : AV} {news : List NEnt} {m : List AV} (hk : V[k]? = some (.inv gm (marksI df))) (hr : ResL P s (V.eraseIdx k) fn.results.toList m) (hv : v.ren (rnA p) = resAV m) (hV : SubV (rnA p) (V.eraseIdx k) news)
    (hn : nodupB (news.map fun x => rnA p x.name) = true) (hcl : closedN v news = true) (hp : PinsOk (rnA p) env0 (V.eraseIdx k) ns) (hns : ((news.map NEnt.name).all fun n => !tn.contains n || ns.contains n) = true) :
    TC P c ⟨nz, none, df⟩ (bodyPostM Fence.wide 0 P fn (PostT c env0 tn v news)) [] s V :=
  fun env tm W O R hf hst => Gw.nil (leave_core p k gm ns hk hr hv hV hn hcl hp hns hf hst)
end
end Go.Proofs.Ytjmkjlhnipnkcaa.Sy
end
section
set_option linter.unusedSimpArgs false
set_option linter.unusedVariables false
namespace Go.Proofs.Ytjmkjlhnipnkcaa.Sy
open Go.RowKit
structure Yields (P : Program) {X σ : Type} (ea : X → List AV) (en : X → List NEnt) (step : X → σ → Option (Bool × σ)) (I : σ → Inv) : Prop where
  isFn : ∀ s W O R v, (I s).ok W O R v → oneOf v = v ∧ ∃ g a b, v = .func g a b ∧ ∀ m, g ≠ .method m
  call : ∀ x s c s', step x s = some (c, s') → ∀ (o : Oper) (ev : Operand → Value) (fo : Operand) (as_ : List Operand) (ats : Array TypeId), o.op = .call { callee := .value fo, args := as_.toArray, argTypes := ats } →
    ∀ (env : Env) (W : World) (O R : Nat → Prop), as_.map ev = AV.denL env (ea x) → (∀ y ∈ en x, y.holds env W (fun _ => False) R) → (I s).ok W O R (ev fo) → (∀ b, O b → b < W.heap.size ∧ ¬ R b) → (∀ b, R b → b < W.heap.size) →
    Does P ((execOp ev o).run P W) fun u W' => u = .bool c ∧ ∃ O' R' : Nat → Prop, Keep O W W' ∧ (I s').ok W' O' R' (ev fo) ∧ (∀ b, O' b → b < W'.heap.size ∧ (W.heap.size ≤ b ∨ O b) ∧ ¬ R' b) ∧ (∀ b, R' b → b < W'.heap.size ∧ (W.heap.size ≤ b ∨ R b ∨ O b)) ∧ (∀ b, R b → R' b)
def jmp (jl : List Code) (j : Nat) : Option Code := if j = 0 then none else some (jl.getD (j - 1) .ret)
def recI (l : Nat) (r : Loop) : Inv := ⟨fun W O _ _ => O l ∧ W.heap[l]? = some (.loop r), fun W W' O R R' hO _ v h => ⟨h.1, (hO l h.1).trans h.2⟩⟩
def busyR (r : Loop) : Loop := { r with state := .busy }
def exitCode : Exit → Option (Option Code)
  | .normal => some none
  | .ret => some (some .ret)
  | .exit id => some (some (.exit id))
  | _ => none
def RoundQ (c : Ctx) (V' : List NEnt) (jl : List Code) (j : Nat) (e : Exit) (_ : Act) (w : World) : Prop :=
  exitCode e = some (jmp jl j) ∧ ∃ env O' R', St c env V' w O' R'
section
variable {P : Program} {c : Ctx} {n : Nat} {ro : Option Nat} {df : List Deferred} {t : List Item} {s : List (Nat × AV)} {V V' : List NEnt} {jl : List Code}
end
section
variable {P : Program} {c : Ctx} {n : Nat} {ro : Option Nat} {df : List Deferred} {t : List Item} {s : List (Nat × AV)} {V V' : List NEnt} {Q : Exit → Act → World → Prop}
theorem Gw.mono {Q' : Exit → Act → World → Prop} {a : Act} {w : World} (h : Gw P ro t Q a w) (hq : ∀ e a w, Q e a w → Q' e a w) : Gw P ro t Q' a w := fun b k cs hb => by
  obtain ⟨e, a', w', h1, h2⟩ := h b k cs hb;exact ⟨e, a', w', hq _ _ _ h1, h2⟩
theorem Gw.beginRound {l : Nat} {a : Act} {w w' : World} (h : (Instr.beginRound l).run P w = .ok () w') (k : Gw P (some l) t Q a w') : Gw P (some l) (.beginRound :: t) Q a w := by
  intro b k0 cs hb;obtain ⟨e, a', w1, hq, ha⟩ := k b k0 cs hb;exact ⟨e, a', w1, hq, .of_steps (.one (fw_calm rfl) (stepR_beginRound hb h)) ha⟩
theorem TC.beginRound {l g : Nat} {rec : Loop} (k : Nat) (hk : V[k]? = some (.inv g (recI l rec))) (hr : rec.state = .ready) (h : TC P c ⟨n, some l, df⟩ Q t s (V.set k (.inv g (recI l (busyR rec))))) : TC P c ⟨n, some l, df⟩ Q (.beginRound :: t) s V := by
  intro env tm W O R hf hst;obtain ⟨h1, h2⟩ : O g l ∧ W.heap[l]? = some (.loop rec) := hst.holds _ (List.mem_of_getElem? hk);refine Gw.beginRound (run_beginRound h2 hr) (h env tm _ O R hf ?_)
  refine hst.write k hk ⟨rfl, rfl, rfl, by simp, fun b _ hb => World.putObj_heap_other fun e => hb (e ▸ h1)⟩ rfl ⟨h1, ?_⟩;exact World.putObj_heap_same (Array.getElem?_eq_some_iff.1 h2).1
end
def pSlots : List Nat → List AV → List (Nat × AV) → List (Nat × AV)
  | p :: ps, a :: as_, s => pSlots ps as_ ((p, a) :: s)
  | _, _, s => s
def PinsIn {σ : Type} (V : σ → List NEnt) (S : List (Nat × AV)) : Prop := ∀ n, hasS n S = true → ∃ g u, ∀ y, NEnt.pin g n u ∈ V y
section
variable {P : Program} {X σ : Type} {n : Nat} {S : List (Nat × AV)} {tm : Array Value} {V : σ → List NEnt} {jl : List Code} {fn : FuncId} {ps : List Nat} {assign body : Code} {D l : Nat} {ea : X → List AV} {en : X → List NEnt} {f : X → σ → Option (Nat × σ)}
end
end Go.Proofs.Ytjmkjlhnipnkcaa.Sy
end
section
set_option linter.unusedSimpArgs false
set_option linter.unusedVariables false
namespace Go.Proofs.Ytjmkjlhnipnkcaa.Sy
open Go.RowKit
theorem Gw.rangeFunc {P : Program} {ro : Option Nat} {t : List Item} {g : Operand} {ps : Array Tmp} {assign body : Code} {Q : Exit → Act → World → Prop} {a : Act} {w : World} {gf : Nat} {fs lb : Array Value}
    (hg : a.eval g = .func (.func gf) fs lb) (eg : ∀ args w, (callFunc gf args).run P w = .ok (.enter gf args) w)
    (h : ∀ fn, ∃ (l : Nat) (mark : List Deferred) (w₁ : World), (Instr.enterLoop fn a.tmps ps assign body ro).run P w = .ok (l, mark) w₁ ∧
      Calls P gf (fs ++ #[.func (.yield l) #[] #[]] ++ lb) w₁ fun e w₃ => ∃ v, e = .returned v ∧ ∃ jump w₄, (Instr.endLoop l).run P w₃ = .ok jump w₄ ∧ Gw P ro ((jump.map Item.code).toList ++ t) Q ⟨a.tmps, mark ++ a.defers⟩ w₄) :
    Gw P ro (.code (.rangeFunc g ps assign body) :: t) Q a w := by
  intro b k cs hro;obtain ⟨l, mark, w₁, he, hcall⟩ := h b.fn;rw [← hro] at he;have hres : (resolve a.eval (rangeCall g l) 0).run P w₁ = .ok { target := .fn (.func gf) lb, args := fs ++ #[.func (.yield l) #[] #[]] } w₁ := by
    simp only [resolve, hg]; simp [go_sem]
  have hinv : (invoke (.fn (.func gf) lb) (fs ++ #[.func (.yield l) #[] #[]])).run P w₁ = .ok (.enter gf (fs ++ #[.func (.yield l) #[] #[]] ++ lb)) w₁ := by simp [invoke, go_sem, eg]
  have hr : (fw ro).room (cs.length + 1 + 0) := fw_room _ _;have h0 : (lone (b.atR a (.code (.rangeFunc g ps assign body) :: (t ++ k))) cs w).fenced P (fw ro) := fenced_lone (.inl trivial) (fun f' hf' => trivial) (fw_room _ _);have henter := stepR_rangeFunc (P := P) (b := b) (a := a) (k := t ++ k) (cs := cs) (w := w) he hres hinv;obtain ⟨hFt, hcall'⟩ := callsIn_fw (ro := ro) (n := 0) hcall;obtain ⟨e, w₃, fr, hR, hsteps, hfn, hleave⟩ := hcall' (b.atR { a with defers := mark ++ a.defers } (.inRangeFunc l :: (t ++ k)) :: cs) (fw_room _ _);obtain ⟨v, rfl, jump, w₄, hend, hj⟩ := hR;have hl : (lone fr (b.atR { a with defers := mark ++ a.defers } (.inRangeFunc l :: (t ++ k)) :: cs) w₃).fenced P (fw ro) := fenced_leaving (n := 0) trivial (fw_room _ _) hleave;have sback : StepsIn (Machine.fenced P (fw ro)) P (lone (b.atR a (.code (.rangeFunc g ps assign body) :: (t ++ k))) cs w) (lone (b.atR { a with defers := mark ++ a.defers } ((jump.map Item.code).toList ++ (t ++ k))) cs w₄) := by
    refine .head h0 henter (StepsIn.trans hsteps (.head hl ?_ (.one (fenced_calm (n := 0) (fr := b.atR { a with defers := mark ++ a.defers } (.endRangeFunc l :: (t ++ k))) trivial (fw_room _ _) rfl) (stepR_endRangeFunc hend))));rw [← finish_atR_inRangeFunc l v]; exact step_leave_returned hleave
  obtain ⟨e', a'', w₅, hq, harr⟩ := hj b k cs hro;rw [List.append_assoc] at harr;exact ⟨e', a'', w₅, hq, .of_steps sback harr⟩
section
variable {P : Program} {c : Ctx} {n : Nat} {ro : Option Nat} {df : List Deferred} {Q : Exit → Act → World → Prop} {t : List Item} {s S : List (Nat × AV)} {V needI : List NEnt} {X σ : Type} {jl : List Code} {ps : List Nat} {assign body : Code} {ea : X → List AV} {en : X → List NEnt} {f : X → σ → Option (Nat × σ)} {V0 : σ → List NEnt}
structure LoopOk (P : Program) (n k gm grec : Nat) (s S : List (Nat × AV)) (V needI : List NEnt) (ps : List Nat) (assign body : Code) (jl : List Code) (ea : X → List AV) (en : X → List NEnt) (f : X → σ → Option (Nat × σ)) (V0 : σ → List NEnt) (s0 : σ) : Prop where
  hbody : ∀ x y r, f x y = some r → ∀ (l : Nat) (rec : Loop) (hrd : rec.state = .ready) (w0 : World) (M R0 : Nat → Prop), TC P ⟨w0, M, R0⟩ ⟨n, some l, []⟩ (RoundQ ⟨w0, M, R0⟩ (.inv grec (recI l (busyR rec)) :: V0 r.2) jl r.1) [.code assign, .beginRound, .code body] (pSlots ps (ea x) S) (.inv grec (recI l rec) :: en x ++ V0 y)
  hS : SubS id s S
  hV : ∀ x ∈ V0 s0, x ∈ V
  hN : ∀ x ∈ needI, x ∈ V
  hro : needI.all NEnt.isRoB = true
  hpin : PinsIn V0 S
  hps : (ps.all fun p => Nat.blt p n) = true
  hlen : ∀ x, ps.length = (ea x).length
  hnd : ∀ x y, nodupB (grec :: (en x).map NEnt.name ++ (V0 y).map NEnt.name) = true
  hnv : ∀ y, nodupB ((V0 y).map NEnt.name) = true
  hfr : ∀ x y, ((grec :: (en x).map NEnt.name).all fun k => !hasS k S && !hasV k (V0 y)) = true
  hcl : ∀ x, closedN (.tup (ea x)) (en x) = true
  hroE : ∀ x, (en x).all NEnt.isRoB = true
  hgE : ∀ x, (!hasV grec (en x)) = true
  hk : (!hasS k s && !hasV k V && !Nat.beq k gm) = true
  hgm : (!hasS gm S && !hasV gm needI) = true
  hgm0 : ∀ y, hasV gm (V0 y) = false
  hnn : nodupB (needI.map NEnt.name) = true
structure TakesOk (V needI V0s : List NEnt) (gm : Nat) (T T' : List NEnt) : Prop where
  hV : ∀ x ∈ T, x ∈ V
  hn : nodupB (T.map NEnt.name ++ needI.map NEnt.name) = true
  h0 : ((T.map NEnt.name).all fun n => !(V0s.map NEnt.name).contains n && !Nat.beq n gm) = true
  h1 : ((T'.map NEnt.name).all fun n => (T.map NEnt.name).contains n) = true
theorem MarksOk.lt {W : World} {O : Nat → Prop} : ∀ {ds : List Deferred}, MarksOk W O ds → ∀ d ∈ ds, ∃ D, d = { target := .collected D, args := #[] } ∧ D < W.heap.size := by
  intro ds
  induction ds with
  | nil => intro _ d hd; cases hd
  | cons x l ih =>
    rintro ⟨⟨D, rfl, _, h, _⟩, hl⟩ d hd
    rcases List.mem_cons.1 hd with rfl | hd
    · exact ⟨D, rfl, (Array.getElem?_eq_some_iff.1 h).1⟩
    · exact ih hl d hd
end
section
variable {P : Program} {c : Ctx} {sz : Fm} {Q : Exit → Act → World → Prop} {t : List Item} {s : List (Nat × AV)} {V : List NEnt} {jl : List Code}
end
def PinsAt {σ : Type} (V : σ → List NEnt) : List Nat → List Nat → Prop
  | n :: ns, i :: is => (∃ g u, ∀ y, (V y)[i]? = some (.pin g n u)) ∧ PinsAt V ns is
  | [], [] => True
  | _, _ => False
theorem PinsAt.get {σ : Type} {V : σ → List NEnt} : ∀ {ns is : List Nat}, PinsAt V ns is → ∀ n ∈ ns, ∃ g u, ∀ y, NEnt.pin g n u ∈ V y := by
  intro ns
  induction ns with
  | nil => intro is _ n hn; cases hn
  | cons m ns ih =>
    intro is h n hn
    cases is with
    | nil => exact h.elim
    | cons i is =>
      rcases List.mem_cons.1 hn with rfl | hn
      · obtain ⟨g, u, h1⟩ := h.1;exact ⟨g, u, fun y => mem_at i (h1 y)⟩
      · exact ih h.2 n hn
section
variable {P : Program} {c : Ctx} {sz : Fm} {Q : Exit → Act → World → Prop} {t : List Item} {s : List (Nat × AV)} {V : List NEnt}
end
end Go.Proofs.Ytjmkjlhnipnkcaa.Sy
end
section
set_option linter.unusedSimpArgs false
set_option linter.unusedVariables false
namespace Go.Proofs.Ytjmkjlhnipnkcaa.Sy
open Go.RowKit
section
variable {P : Program} {c : Ctx} {s : List (Nat × AV)} {o : Oper}
theorem ts_append {T E size bytes n m N N2 : Nat} (r : Nat) {x y : Operand} {els els2 els3 : List (List D)} {ym : NEnt} (ho : o.op = .call { callee := .builtin .append, args := #[x, y], argTypes := #[T, T] })
    (hx : rho s x = some (.ref n)) (hy : rho s y = some (.ref m)) (hym : IsRow ym m size els2) (hnm : (m == n) = false) (hT : SlT P T E size bytes) (hl1 : els.length = N) (hl2 : els2.length = N2) (hroom : room bytes (N + N2) = true) (he3 : els ++ els2 = els3) (hrn : (r == n) = false) :
    TSpec P o (rho s) [.row n E size els] [ym] (.ref r) [.row r E size els3] := by
  subst hl1; subst hl2; subst he3;intro ev c env V W O R hev hst ht hk hnn;have hxm : NEnt.row n E size els ∈ V := ht _ (List.mem_singleton.2 rfl);have hm : ym ∈ V := hk _ (List.mem_singleton.2 rfl);obtain ⟨k, hkk⟩ := List.mem_iff_getElem?.1 hxm;have hrV : hasV r V = false := by
    rcases hnn _ (List.mem_singleton.2 rfl) with h | h
    · simp only [NEnt.name, List.map_cons, List.map_nil, List.mem_singleton] at h;rw [h] at hrn; simp at hrn
    · exact h
  simp only [room, Bool.and_eq_true, decide_eq_true_eq] at hroom;obtain ⟨hs, cells, hown, hob, hcd⟩ := hst.holds _ hxm;obtain ⟨a, cap, hv2, hnone, hs2, us, hul, hone, hcell, hok⟩ := row_cells hym hT.pos (hst.holds _ hm);obtain ⟨i, z, hi, hz, hsz, hby, hzs⟩ := hT.info;have hvx : oneOf (env n) = env n := by
    rcases hown.2 with ⟨hv, _⟩ | ⟨g, cap, cur, hv, _⟩ <;> rw [hv] <;> rfl
  have hx' := hev _ _ hx;have hy' := hev _ _ hy;simp only [AV.den, hvx] at hx';simp only [AV.den, hv2, oneOf] at hy';have hrun : ∃ v' W', (Builtin.append_ #[T, T] o.type #[env n, .slice a els2.length cap]).run P W = .ok v' W' ∧ W'.ownsRow 0 E size v' (els.length + els2.length) (cells ++ us) ∧ W.grownBy W' (env n).ownBlock ∧
      ∀ b, v'.ownBlock = some b → (env n).ownBlock = some b ∨ W.heap.size ≤ b := by
    cases a with
    | none =>
      have he2 := hnone rfl;subst he2;have hus : us = [] := List.eq_nil_of_length_eq_zero (by simpa using hul);subst hus;obtain ⟨_, _, h2, _, _, h4, _⟩ := row_read hym (hst.holds _ hm);have hc0 : cap = 0 := by
        rw [hv2] at h2; cases h2; exact h4 rfl
      subst hc0;refine ⟨env n, W, run_append_owned_none (w := W) 0 T o.type E i size hT.under hi _ _ _ hown, by simpa using hown, ⟨rfl, rfl, rfl, Nat.le_refl _, fun _ _ _ => rfl⟩, fun b hb => .inl hb⟩
    | some ad =>
      obtain ⟨v', W', h1, h2, h3, _⟩ := run_append_own W 0 T o.type E i z size bytes hT.under hi hz hsz hby hzs hT.pos (env n) els.length cells hown ad els2.length cap us hul (hcell ad rfl) hone (by simp only [maxLen]; omega) hroom.1 (Nat.zero_le _);refine ⟨v', W', h1, h2, h3, fun b hb => ?_⟩;subst hsz; subst hby
      have h63 : (els.length + els2.length : Nat) ≤ 9223372036854775807 := by omega
      rcases hown.2 with ⟨hv, hn0⟩ | ⟨g, cap2, cur, hv, _, hg, hnc, hcm, hcs, htk⟩
      · rw [hv] at h1
        by_cases h0 : els2.length = 0
        · have hus : us = [] := List.eq_nil_of_length_eq_zero (by simpa [h0] using hul);have hl0 : els.length = 0 := hn0;have : (Builtin.append_ #[T, T] o.type #[.slice none 0 0, .slice (some ad) els2.length cap]).run P W = .ok (.slice none 0 0) W := by
            rw [h0];simp [Builtin.append_, run_underlying hT.under, sizeOf, typeInfo, hi, Builtin.lenOf, Builtin.firstCells, loadCells, loadCellsFrom]
          rw [this] at h1;cases h1;simp [Value.ownBlock] at hb
        · have hr := run_append_nil (P := P) W T o.type E i z hT.under hi hz ad els2.length cap us hul (hcell ad rfl) (by omega) (by omega) (by have := hroom.1; rw [Nat.add_mul] at this; omega);rw [hr] at h1;cases h1;simp [Value.ownBlock] at hb;exact .inr (by omega)
      · rw [hv] at h1 ⊢
        by_cases hroom2 : els.length + els2.length ≤ cap2
        · have hfit : els.length * i.size + us.length ≤ cur.size := by rw [hul, hcs, ← Nat.add_mul]; exact Nat.mul_le_mul_right _ hroom2
          have hr := run_append_room (P := P) W T o.type E i hT.under hi g els.length cap2 cur hg ad els2.length cap us hul (hcell ad rfl) hone hroom2 hfit;rw [hr] at h1;cases h1;exact .inl hb
        · have holds : ∀ j u, cells[j]? = some u → W.cell? ((⟨g, 0, none⟩ : Addr).add j) = some u := World.ownsRow.cells hown (g := g) (by rw [hv]; rfl);have hr := run_append_grow (P := P) W T o.type E i z hT.under hi hz ⟨g, 0, none⟩ els.length cap2 cells hown.1 holds ad els2.length cap us hul (hcell ad rfl) (by omega) (by omega) (growslice_fits (by omega) hroom.1);rw [hr] at h1;cases h1;simp [Value.ownBlock] at hb;exact .inr (by omega)
  obtain ⟨v', W', hrun, hown', hgrow, hblk⟩ := hrun;have hexec : (execOp ev o).run P W = .ok (.value v') W' := by
    simp only [execOp, ho, resolve, invoke, builtin, Sem.run_bind, Sem.run_pure, Result.andThen_ok, List.map_toArray, List.map_cons, List.map_nil, hx', hy', hrun]
  rw [hexec];have hkeep : Keep (fun b => O n b) W W' := grown_keep hgrow hob;have hvb : ∀ b, v'.ownBlock = some b → (O n b ∨ W.heap.size ≤ b) ∧ b < W'.heap.size := by
    intro b hb;exact ⟨(hblk b hb).imp (hob b) id, (hown'.lt b hb).2⟩
  obtain ⟨O', hst'⟩ := hst.replace (y := .row r E size (els ++ els2)) (v := v') (Or := fun b => v'.ownBlock = some b) k hkk hkeep hvb hrV (by
    simp only [NEnt.name, NEnt.holds, setEnv_same];refine ⟨fun el he => (List.mem_append.1 he).elim (hs el) (hs2 el), cells ++ us, by simpa using hown', fun b hb => hb, fun q d hq => ?_⟩;have hRk : ∀ b, R b → R b ∧ W'.heap[b]? = W.heap[b]? := fun b hb => ⟨hb, hkeep.block b (hst.ro b hb).1 (fun ho => (hst.own _ hxm b ho).2.2 hb)⟩
    have hfl := flatten_len els hs;have hcl : cells.length = els.length * size := hown.1;rw [List.flatten_append] at hq;rcases Nat.lt_or_ge q els.flatten.length with hlt | hge
    · rw [List.getElem?_append_left hlt] at hq;obtain ⟨u, hu, hok', h1⟩ := hcd q d hq;exact ⟨u, by rw [List.getElem?_append_left (by omega)]; exact hu, d.mono W W' R R hRk u hok', h1⟩
    · rw [List.getElem?_append_right hge] at hq;obtain ⟨u, hu, hok'⟩ := hok _ d hq;exact ⟨u, by rw [List.getElem?_append_right (by omega), hcl, ← hfl]; exact hu, d.mono W W' R R hRk u hok', hone u (List.mem_of_getElem? hu)⟩)
  have hone' : oneOf v' = v' := by
    rcases hown'.2 with ⟨hv, _⟩ | ⟨g, cap, cur, hv, _⟩ <;> rw [hv] <;> rfl
  refine ⟨_, O', R, fun q hq => ?_, ?_, hst'.sub (V' := [.row r E size (els ++ els2)] ++ delV [n] V) id (fun z hz => ?_) ?_⟩
  · refine setEnv_other fun e => ?_
    by_cases h : r ∈ [n]
    · simp only [List.mem_singleton] at h;rw [h] at hrn; simp at hrn
    · exact hq _ (List.mem_singleton.2 rfl) (by simpa [NEnt.name] using h) (by simpa [NEnt.name] using e)
  · show v' = oneOf (setEnv env r v' r);rw [setEnv_same, hone']
  · rw [NEnt.ren_id];rcases List.mem_append.1 hz with hz | hz
    · exact List.mem_cons.2 (.inl (List.mem_singleton.1 hz))
    · obtain ⟨h1, h2⟩ := mem_delV.1 hz;refine List.mem_cons_of_mem _ ?_;obtain ⟨q, hq⟩ := List.mem_iff_getElem?.1 h1;have hqk : q ≠ k := fun e => by
        subst e; rw [hkk] at hq; cases hq; simp [NEnt.name] at h2
      refine List.mem_iff_getElem?.2 ?_;rcases Nat.lt_or_gt_of_ne hqk with hlt | hgt
      · exact ⟨q, by rw [List.getElem?_eraseIdx, if_pos hlt]; exact hq⟩
      · exact ⟨q - 1, by rw [List.getElem?_eraseIdx, if_neg (by omega), show q - 1 + 1 = q by omega]; exact hq⟩
  · simp only [id, List.cons_append, List.nil_append, List.map_cons, List.nodup_cons];refine ⟨fun hmm => ?_, hst.names.sublist ((delV_sub _ _).map NEnt.name)⟩;obtain ⟨z, hz, e⟩ := List.mem_map.1 hmm;have := mem_has (mem_delV.1 hz).1 (NEnt.has_name z);rw [e] at this;simp only [NEnt.name] at this;rw [hrV] at this; cases this
end
def VOk (ag : Bool) (ds : List D) (W : World) (R : Nat → Prop) (v : Value) : Prop :=
  ∃ cs : List Value, v.cells = cs.toArray ∧ (v = if ag then .agg cs.toArray else cs.headD undef) ∧ cs.length = ds.length ∧ ∀ (j : Nat) (d : D), ds[j]? = some d → ∃ u : Value, cs[j]? = some u ∧ d.ok W R u ∧ u.oneCell' = true
theorem VOk.keep {ag : Bool} {ds : List D} {W W' : World} {R R' : Nat → Prop} {v : Value} (hm : ∀ b, R b → R' b ∧ W'.heap[b]? = W.heap[b]?) (h : VOk ag ds W R v) : VOk ag ds W' R' v := by
  obtain ⟨cs, h1, h2, h3, h4⟩ := h;exact ⟨cs, h1, h2, h3, fun j d hj => by obtain ⟨u, g1, g2, g3⟩ := h4 j d hj; exact ⟨u, g1, d.mono W W' R R' hm u g2, g3⟩⟩
inductive EsOk {κ ν : Type} (ek : κ → Value) (ag : Bool) (ev : ν → List D) (W : World) (R : Nat → Prop) : List MapEntry → List (κ × ν) → Prop where
  | nil : EsOk ek ag ev W R [] []
  | cons {e : MapEntry} {x : κ × ν} {es xs} : e.key = ek x.1 → VOk ag (ev x.2) W R e.val → EsOk ek ag ev W R es xs → EsOk ek ag ev W R (e :: es) (x :: xs)
section
variable {κ ν : Type} {ek : κ → Value} {ag : Bool} {ev : ν → List D} {W W' : World} {R R' : Nat → Prop}
theorem EsOk.keep (hm : ∀ b, R b → R' b ∧ W'.heap[b]? = W.heap[b]?) {es : List MapEntry} {xs : List (κ × ν)} (h : EsOk ek ag ev W R es xs) : EsOk ek ag ev W' R' es xs := by
  induction h with
  | nil => exact .nil
  | cons h1 h2 _ ih => exact .cons h1 (h2.keep hm) ih
theorem EsOk.keys {es : List MapEntry} {xs : List (κ × ν)} (h : EsOk ek ag ev W R es xs) : es.map (·.key) = (xs.map (·.1)).map ek := by
  induction h with
  | nil => rfl
  | cons h1 _ _ ih => simp [h1, ih]
theorem EsOk.len {es : List MapEntry} {xs : List (κ × ν)} (h : EsOk ek ag ev W R es xs) : es.length = xs.length := by
  induction h with
  | nil => rfl
  | cons _ _ _ ih => simp [ih]
theorem EsOk.at {es : List MapEntry} {xs : List (κ × ν)} (h : EsOk ek ag ev W R es xs) : ∀ {i : Nat} {x : κ × ν}, xs[i]? = some x → ∃ e, es[i]? = some e ∧ e.key = ek x.1 ∧ VOk ag (ev x.2) W R e.val := by
  induction h with
  | nil => intro i x hi; simp at hi
  | cons h1 h2 _ ih =>
    intro i x hi
    cases i with
    | zero => simp at hi; subst hi; exact ⟨_, rfl, h1, h2⟩
    | succ i => exact ih (by simpa using hi)
theorem EsOk.snoc {es : List MapEntry} {xs : List (κ × ν)} (h : EsOk ek ag ev W R es xs) {e : MapEntry} {x : κ × ν} (h1 : e.key = ek x.1) (h2 : VOk ag (ev x.2) W R e.val) : EsOk ek ag ev W R (es ++ [e]) (xs ++ [x]) := by
  induction h with
  | nil => exact .cons h1 h2 .nil
  | cons g1 g2 _ ih => exact .cons g1 g2 ih
theorem EsOk.set {es : List MapEntry} {xs : List (κ × ν)} (h : EsOk ek ag ev W R es xs) : ∀ (i : Nat) {e : MapEntry} {x : κ × ν}, e.key = ek x.1 → VOk ag (ev x.2) W R e.val → EsOk ek ag ev W R (es.set i e) (xs.set i x) := by
  induction h with
  | nil => intro i e x _ _; exact .nil
  | cons g1 g2 g3 ih =>
    intro i e x h1 h2
    cases i with
    | zero => exact .cons h1 h2 g3
    | succ i => exact .cons g1 g2 (ih i h1 h2)
theorem EsOk.erase {es : List MapEntry} {xs : List (κ × ν)} (h : EsOk ek ag ev W R es xs) : ∀ (i : Nat), EsOk ek ag ev W R (es.eraseIdx i) (xs.eraseIdx i) := by
  induction h with
  | nil => intro i; exact .nil
  | cons g1 g2 g3 ih =>
    intro i
    cases i with
    | zero => exact g3
    | succ i => exact .cons g1 g2 (ih i)
end
def BornOk (es : List MapEntry) (cl : Nat) : Prop := (es.map (·.born)).Nodup ∧ ∀ b ∈ es.map (·.born), b < cl
theorem BornOk.nil (cl : Nat) : BornOk [] cl := ⟨by simp, by simp⟩
theorem BornOk.push {es : List MapEntry} {cl : Nat} (h : BornOk es cl) {e : MapEntry} (he : e.born = cl) : BornOk (es ++ [e]) (cl + 1) := by
  refine ⟨?_, fun b hb => ?_⟩
  · rw [List.map_append, List.nodup_append];refine ⟨h.1, by simp, fun x hx y hy => ?_⟩;have := h.2 x hx;simp only [List.map_cons, List.map_nil, List.mem_singleton] at hy
    omega
  · rw [List.map_append, List.mem_append] at hb;rcases hb with hb | hb
    · have := h.2 b hb; omega
    · simp only [List.map_cons, List.map_nil, List.mem_singleton] at hb; omega
theorem BornOk.same {es es' : List MapEntry} {cl : Nat} (h : BornOk es cl) (he : es'.map (·.born) = es.map (·.born)) : BornOk es' cl := by unfold BornOk; rw [he]; exact h
theorem BornOk.erase {es : List MapEntry} {cl : Nat} (h : BornOk es cl) (j : Nat) : BornOk (es.eraseIdx j) cl := by
  have hs : ((es.eraseIdx j).map (·.born)).Sublist (es.map (·.born)) := (List.eraseIdx_sublist _ _).map _;exact ⟨h.1.sublist hs, fun b hb => h.2 b (hs.subset hb)⟩
def mfind {κ ν : Type} [BEq κ] (xs : List (κ × ν)) (k : κ) : Option Nat := (xs.map (·.1)).findIdx? (· == k)
def mput {κ ν : Type} [BEq κ] (xs : List (κ × ν)) (k : κ) (v : ν) : List (κ × ν) := match mfind xs k with
  | some i => xs.set i (k, v)
  | none => xs ++ [(k, v)]
def mdel {κ ν : Type} [BEq κ] (xs : List (κ × ν)) (k : κ) : List (κ × ν) := match mfind xs k with
  | some i => xs.eraseIdx i
  | none => xs
section
variable {κ ν : Type} [BEq κ]
theorem mfind_cons (x : κ × ν) (xs : List (κ × ν)) (k : κ) : mfind (x :: xs) k = if x.1 == k then some 0 else (mfind xs k).map (· + 1) := by
  simp only [mfind, List.map_cons, List.findIdx?_cons]
theorem mput_cons (x : κ × ν) (xs : List (κ × ν)) (k : κ) (v : ν) : mput (x :: xs) k v = if x.1 == k then (k, v) :: xs else x :: mput xs k v := by
  simp only [mput, mfind_cons]
  by_cases h : (x.1 == k) = true
  · simp [h]
  · simp only [h, if_false, Bool.false_eq_true];cases mfind xs k <;> simp
theorem mdel_cons (x : κ × ν) (xs : List (κ × ν)) (k : κ) : mdel (x :: xs) k = if x.1 == k then xs else x :: mdel xs k := by
  simp only [mdel, mfind_cons]
  by_cases h : (x.1 == k) = true
  · simp [h]
  · simp only [h, if_false, Bool.false_eq_true];cases mfind xs k <;> simp
variable [LawfulBEq κ]
theorem filter_ne {xs : List (κ × ν)} {k : κ} (h : k ∉ xs.map (·.1)) : xs.filter (fun x => !(x.1 == k)) = xs := by
  rw [List.filter_eq_self];intro x hx;have : x.1 ≠ k := fun e => h (e ▸ List.mem_map.2 ⟨x, hx, rfl⟩)
  simpa using this
theorem mput_filter {xs : List (κ × ν)} (nd : (xs.map (·.1)).Nodup) (k : κ) (v : ν) : (mput xs k v).Perm ((k, v) :: xs.filter fun x => !(x.1 == k)) := by
  induction xs with
  | nil => exact .refl _
  | cons x xs ih =>
    obtain ⟨a, b⟩ := x;rw [List.map_cons, List.nodup_cons] at nd;rw [mput_cons]
    by_cases h : a = k
    · subst h;simp only [BEq.rfl, if_true, List.filter_cons, Bool.not_true, Bool.false_eq_true, if_false, filter_ne nd.1];exact .refl _
    · have h2 : (a == k) = false := by simpa using h
      simp only [h2, Bool.false_eq_true, if_false, List.filter_cons, Bool.not_false, if_true];exact ((ih nd.2).cons _).trans (.swap _ _ _)
theorem mdel_filter {xs : List (κ × ν)} (nd : (xs.map (·.1)).Nodup) (k : κ) : mdel xs k = xs.filter fun x => !(x.1 == k) := by
  induction xs with
  | nil => rfl
  | cons x xs ih =>
    obtain ⟨a, b⟩ := x;rw [List.map_cons, List.nodup_cons] at nd;rw [mdel_cons]
    by_cases h : a = k
    · subst h;simp only [BEq.rfl, if_true, List.filter_cons, Bool.not_true, Bool.false_eq_true, if_false, filter_ne nd.1]
    · have h2 : (a == k) = false := by simpa using h
      simp only [h2, Bool.false_eq_true, if_false, List.filter_cons, Bool.not_false, if_true, ih nd.2]
theorem nodup_put {xs : List (κ × ν)} (nd : (xs.map (·.1)).Nodup) (k : κ) (v : ν) : ((mput xs k v).map (·.1)).Nodup := by
  rw [((mput_filter nd k v).map (·.1)).nodup_iff, List.map_cons, List.nodup_cons];refine ⟨fun h => ?_, nd.sublist (List.filter_sublist.map _)⟩;obtain ⟨x, hx, e⟩ := List.mem_map.1 h;have := (List.mem_filter.1 hx).2;simp only at e;rw [e] at this;simp at this
theorem nodup_del {xs : List (κ × ν)} (nd : (xs.map (·.1)).Nodup) (k : κ) : ((mdel xs k).map (·.1)).Nodup := by
  rw [mdel_filter nd]; exact nd.sublist (List.filter_sublist.map _)
theorem mput_perm {xs ys : List (κ × ν)} (p : ys.Perm xs) (nd : (ys.map (·.1)).Nodup) (k : κ) (v : ν) : (mput ys k v).Perm (mput xs k v) :=
  (mput_filter nd k v).trans (((p.filter _).cons _).trans (mput_filter ((p.map _).nodup_iff.1 nd) k v).symm)
theorem mdel_perm {xs ys : List (κ × ν)} (p : ys.Perm xs) (nd : (ys.map (·.1)).Nodup) (k : κ) : (mdel ys k).Perm (mdel xs k) := by
  rw [mdel_filter nd, mdel_filter ((p.map _).nodup_iff.1 nd)]; exact p.filter _
def mins (lt : κ → κ → Bool) (x : κ × ν) : List (κ × ν) → List (κ × ν)
  | [] => [x]
  | y :: l => if lt x.1 y.1 then x :: y :: l else y :: mins lt x l
def mputS (lt : κ → κ → Bool) (xs : List (κ × ν)) (k : κ) (v : ν) : List (κ × ν) := mins lt (k, v) (xs.filter fun x => !(x.1 == k))
omit [BEq κ] [LawfulBEq κ] in
theorem mins_perm (lt : κ → κ → Bool) (x : κ × ν) (l : List (κ × ν)) : (mins lt x l).Perm (x :: l) := by
  induction l with
  | nil => exact .refl _
  | cons y l ih =>
    simp only [mins]
    split
    · exact .refl _
    · exact (ih.cons _).trans (.swap _ _ _)
theorem mputS_perm (lt : κ → κ → Bool) {xs : List (κ × ν)} (k : κ) (v : ν) (nd : (xs.map (·.1)).Nodup) : (mputS lt xs k v).Perm (mput xs k v) := (mins_perm lt _ _).trans (mput_filter nd k v).symm
end
def MapOk {κ ν : Type} (es : List MapEntry) (cl : Nat) (ys xs : List (κ × ν)) : Prop := ys.Perm xs ∧ (ys.map (·.1)).Nodup ∧ BornOk es cl
def mapI {κ ν : Type} (ek : κ → Value) (ag : Bool) (ev : ν → List D) (xs : List (κ × ν)) : Inv :=
  ⟨fun W O R v => ∃ r clock es ys, v = .map (some r) ∧ O r ∧ W.heap[r]? = some (.map es clock) ∧ EsOk ek ag ev W R es.toList ys ∧ MapOk es.toList clock ys xs,
   fun W W' O R R' hO hR v ⟨r, cl, es, ys, h1, h2, h3, h4, h5⟩ => ⟨r, cl, es, ys, h1, h2, (hO r h2).trans h3, h4.keep hR, h5⟩⟩
structure MKey (P : Program) (M K V : TypeId) {κ : Type} [BEq κ] (ek : κ → Value) : Prop where
  under : P.underlying M = some (.map K V)
  check : ∀ b k w, (Instr.checkKey b 10000 K (ek k)).run P w = .ok () w
  find : ∀ (k : κ) (es : List MapEntry) (ks : List κ) (w : World), es.map (·.key) = ks.map ek → (Instr.findKey K (ek k) es).run P w = .ok ((ks.findIdx? (· == k)).bind fun i => (es[i]?).map fun e => (i, e.val)) w
  stay : ∀ k w, (Instr.keyThatStays (ek k) (ek k)).run P w = .ok (ek k) w
  eq : ∀ (ks : List κ) k i x, ks.findIdx? (· == k) = some i → ks[i]? = some x → ek x = ek k
def IsMapE {κ ν : Type} (x : NEnt) (n : Nat) (ek : κ → Value) (ag : Bool) (ev : ν → List D) (xs : List (κ × ν)) : Prop := x = .inv n (mapI ek ag ev xs) ∨ x = .any n (mapI ek ag ev xs).froz
theorem isMapO {κ ν : Type} {n : Nat} {ek : κ → Value} {ag : Bool} {ev : ν → List D} {xs : List (κ × ν)} : IsMapE (.inv n (mapI ek ag ev xs)) n ek ag ev xs := .inl rfl
theorem map_read {κ ν : Type} {x : NEnt} {n : Nat} {ek : κ → Value} {ag : Bool} {ev : ν → List D} {xs : List (κ × ν)} {env : Env} {W : World} {O R : Nat → Prop} (hx : IsMapE x n ek ag ev xs) (h : x.holds env W O R) :
    ∃ r clock es ys, env n = .map (some r) ∧ W.heap[r]? = some (.map es clock) ∧ EsOk ek ag ev W R es.toList ys ∧ MapOk es.toList clock ys xs := by
  rcases hx with rfl | rfl
  · obtain ⟨r, cl, es, ys, h1, _, h3, h4⟩ := h; exact ⟨r, cl, es, ys, h1, h3, h4⟩
  · obtain ⟨_, _, r, cl, es, ys, h1, _, h3, h4⟩ := h; exact ⟨r, cl, es, ys, h1, h3, h4⟩
section
variable {P : Program} {o : Oper} {ρ : Operand → Option AV}
theorem sp_makeMap {κ ν : Type} {M : TypeId} (n : Nat) {ek : κ → Value} {ag : Bool} {ev : ν → List D} (xs : List (κ × ν)) (hx : xs = []) (ho : o.op = .makeMap M none) : OpSpec P o ρ [] (.ref n) [.inv n (mapI ek ag ev xs)] := by
  subst hx;intro evl env W O R he _ _ hR;have : (execOp evl o).run P W = .ok (.value (.map (some W.heap.size))) (W.alloc (.map #[] 0)) := by
    simp [execOp, ho, Instr.makeMap, run_newObj_alloc]
  rw [this];refine ⟨setEnv env n (.map (some W.heap.size)), fun _ b => b = W.heap.size, R, fun m hm => setEnv_other (hm (.inv n (mapI ek ag ev [])) (by simp)), by simp [AV.den, setEnv_same, oneOf], ?_⟩;refine St.fresh (keep_alloc W _) hR ?_ (fun b hb => by subst hb; simp);simp only [NEnt.holds, setEnv_same];exact ⟨_, 0, #[], [], rfl, rfl, World.alloc_heap_new W _, .nil, .refl _, List.nodup_nil, BornOk.nil 0⟩
theorem getObj_map {W : World} {r cl : Nat} {es : Array MapEntry} (h : W.heap[r]? = some (.map es cl)) : (getObj r).run P W = .ok (.map es cl) W := by simp [getObj, Sem.run, h]
theorem setObj_map {W : World} {r cl : Nat} {es : Array MapEntry} (o' : Obj) (h : W.heap[r]? = some (.map es cl)) : (setObj r o').run P W = .ok () (W.putObj r o') := by simp [setObj, Sem.run, h, World.putObj]
theorem sp_lenMap {κ ν : Type} {M K V n : Nat} {x : Operand} {ek : κ → Value} {ag : Bool} {ev : ν → List D} {xs : List (κ × ν)} {y : NEnt} (ho : o.op = .call { callee := .builtin .len, args := #[x], argTypes := #[M] }) (hx : ρ x = some (.ref n)) (hy : IsMapE y n ek ag ev xs) (hM : P.underlying M = some (.map K V)) :
    OpSpec P o ρ [y] (.val (.int .i64 (xs.length : Int))) [] :=
  .pure fun evl env W O R he hn => by
    obtain ⟨r, cl, es, ys, h1, h2, h3, h4⟩ := map_read hy (hn _ (List.mem_singleton.2 rfl));have hx' := he x _ hx;simp only [AV.den, h1, oneOf] at hx';have hl : es.size = xs.length := by rw [← h4.1.length_eq, ← h3.len]; simp
    simp [execOp, ho, resolve, invoke, builtin, hx', Builtin.len_, run_underlying hM, getObj_map h2, goInt, AV.den, hl]
def AV.isAgg : AV → Bool
  | .agg _ => true
  | _ => false
theorem vok_of {ag : Bool} {a : AV} {ds : List D} {need : List NEnt} {env : Env} {W : World} {O : Nat → Nat → Prop} {R : Nat → Prop} (hfl : a.flat = true) (hag : a.isAgg = ag) (had : ADL need a.cs ds) (hn : ∀ x ∈ need, x.holds env W (O x.name) R) : VOk ag ds W R (a.den env) := by
  obtain ⟨hl, hk⟩ := had.ok hn;have hone := denL_one (e := env) (cs_all_one hfl);refine ⟨AV.denL env a.cs, AV.den_cells hfl env, ?_, by rw [denL_length]; exact hl, fun j d hj => ?_⟩
  · cases a with
    | agg cs => subst hag; rfl
    | tup cs => cases hfl
    | val v => subst hag; simp [AV.cs, AV.denL, AV.den, AV.isAgg]
    | ref v => subst hag; simp [AV.cs, AV.denL, AV.den, AV.isAgg]
    | ptr n o => subst hag; simp [AV.cs, AV.denL, AV.den, AV.isAgg]
    | cell n o => subst hag; simp [AV.cs, AV.denL, AV.den, AV.isAgg]
    | fn f x y => subst hag; simp [AV.cs, AV.denL, AV.den, AV.isAgg]
  · obtain ⟨u, h1, h2⟩ := hk j d hj;exact ⟨u, h1, h2, hone u (List.mem_of_getElem? h1)⟩
end
section
variable {P : Program} {s : List (Nat × AV)} {o : Oper}
theorem ts_mapUpdate {κ ν : Type} [BEq κ] [LawfulBEq κ] {M K V n : Nat} {x i y : Operand} {ek : κ → Value} {ag : Bool} {ev : ν → List D} {xs : List (κ × ν)} (k : κ) (d : ν) {ka va : AV} {ys : List (κ × ν)} {need : List NEnt} (ho : o.op = .mapUpdate M x i y) (hx : rho s x = some (.ref n)) (hi : rho s i = some ka) (hka : ∀ e, ka.den e = ek k) (hy : rho s y = some va)
    (hfl : va.flat = true) (hag : va.isAgg = ag) (had : ADL need va.cs (ev d)) (hk : MKey P M K V ek) (hys : (xs.map (·.1)).Nodup → ys.Perm (mput xs k d)) :
    TSpec P o (rho s) [.inv n (mapI ek ag ev xs)] need (.val undef) [.inv n (mapI ek ag ev ys)] := by
  intro evl c env W0 W O R he hst ht hnd _;have hm := ht _ (List.mem_singleton.2 rfl);obtain ⟨kk, hkk⟩ := List.mem_iff_getElem?.1 hm;obtain ⟨r, cl, es, zs, h1, hOr, h2, h3, hp, hnd', hb⟩ := hst.holds _ hm;have hys' := hys ((hp.map _).nodup_iff.1 hnd');have hx' := he x _ hx;simp only [AV.den, h1, oneOf] at hx';have hi' := he i _ hi;rw [hka] at hi';have hy' := he y _ hy;have hvo : VOk ag (ev d) W R (va.den env) := vok_of hfl hag had fun z hz => hst.holds z (hnd z hz)
  have hf := hk.find k es.toList (zs.map (·.1)) W h3.keys;have hR' : ∀ b, R b → b ≠ r := fun b hb e => (hst.own _ hm r hOr).2.2 (e ▸ hb)
  have hlt : r < W.heap.size := (Array.getElem?_eq_some_iff.1 h2).1;have key : ∀ (es' : Array MapEntry) (cl' : Nat), EsOk ek ag ev W R es'.toList (mput zs k d) → BornOk es'.toList cl' → St c env ([.inv n (mapI ek ag ev ys)] ++ delV [n] W0) (W.putObj r (.map es' cl')) O R := by
    intro es' cl' hes hbo;refine St.set_del hkk hst.names rfl (hst.write kk hkk ⟨rfl, rfl, rfl, by simp, fun b _ hb => World.putObj_heap_other fun e => hb (e ▸ hOr)⟩ rfl ?_)
    exact ⟨r, cl', es', _, h1, hOr, World.putObj_heap_same hlt, hes.keep fun b hb => ⟨hb, World.putObj_heap_other (hR' b hb)⟩, (mput_perm hp hnd' k d).trans hys'.symm, nodup_put hnd' k d, hbo⟩
  cases hfi : (zs.map (·.1)).findIdx? (· == k) with
  | none =>
    rw [hfi] at hf;have hrun : (execOp evl o).run P W = .ok .skip (W.putObj r (.map (es.push { key := ek k, val := va.den env, born := cl }) (cl + 1))) := by
      simp only [execOp, ho, Instr.mapUpdate, hx', hi', hy', Sem.run_bind, run_underlying hk.under, Result.andThen_ok, getObj_map h2, hk.check, hf, Option.bind_none, setObj_map _ h2, Sem.run_pure]
    rw [hrun];refine ⟨env, O, R, fun _ _ => rfl, rfl, key _ _ ?_ ?_⟩
    · simp only [mput, mfind, hfi, Array.toList_push];exact h3.snoc rfl hvo
    · rw [Array.toList_push]; exact hb.push rfl
  | some j =>
    have hjl : j < zs.length := by have := (List.findIdx?_eq_some_iff_getElem.1 hfi).1; simpa using this
    obtain ⟨e, hej, hek, _⟩ := h3.at (i := j) (x := zs[j]) (by simp [hjl]);rw [hfi] at hf;simp only [Option.bind_some, hej, Option.map_some] at hf;have hke : e.key = ek k := by rw [hek]; exact hk.eq _ k j _ hfi (by simp [hjl])
    have hej' : es[j]? = some e := by simpa using hej
    have hrun : (execOp evl o).run P W = .ok .skip (W.putObj r (.map (es.modify j fun e => { e with key := ek k, val := va.den env }) cl)) := by
      simp only [execOp, ho, Instr.mapUpdate, hx', hi', hy', Sem.run_bind, run_underlying hk.under, Result.andThen_ok, getObj_map h2, hk.check, hf, hej', Option.map_some, Option.getD_some, hke, hk.stay, setObj_map _ h2, Sem.run_pure]
    rw [hrun];refine ⟨env, O, R, fun _ _ => rfl, rfl, key _ _ ?_ ?_⟩
    rotate_left
    · refine hb.same ?_;rw [Array.toList_modify];apply List.ext_getElem?;intro q;rw [List.getElem?_map, List.getElem?_map, List.getElem?_modify]
      by_cases e' : j = q
      · subst e'; cases es.toList[j]? <;> simp
      · simp [e']
    simp only [mput, mfind, hfi, Array.toList_modify];have : es.toList.modify j (fun e => { e with key := ek k, val := va.den env }) = es.toList.set j { e with key := ek k, val := va.den env } := by
      apply List.ext_getElem?;intro q;rw [List.getElem?_modify, List.getElem?_set]
      by_cases e' : j = q
      · subst e';have hq : j < es.toList.length := (List.getElem?_eq_some_iff.1 hej).1;simp [hej]
        simpa using hq
      · simp [e']
    rw [this];exact h3.set j rfl hvo
end
end Go.Proofs.Ytjmkjlhnipnkcaa.Sy
end
section
set_option linter.unusedSimpArgs false
set_option linter.unusedVariables false
namespace Go.Proofs.Ytjmkjlhnipnkcaa.Sy
open Go.RowKit
section
variable {P : Program} {o : Oper} {ρ : Operand → Option AV}
end
section
variable {P : Program} {o : Oper} {ρ : Operand → Option AV}
end
section
variable {P : Program} {o : Oper} {ρ : Operand → Option AV}
end
section
variable {P : Program} {c : Ctx} {sz : Fm} {Q : Exit → Act → World → Prop} {t : List Item} {s : List (Nat × AV)} {V : List NEnt}
end
section
variable {P : Program} {o : Oper} {ρ : Operand → Option AV}
end
section
variable {P : Program} {c : Ctx} {sz : Fm} {Q : Exit → Act → World → Prop} {t : List Item} {s : List (Nat × AV)} {V : List NEnt} {ops : Array Oper} {rest : List Oper}
theorem St.weaken {env : Env} {W : World} {O : Nat → Nat → Prop} {R : Nat → Prop} {k : Nat} {x y : NEnt} (h : St c env V W O R) (hk : V[k]? = some x) (hn : y.name = x.name) (hy : ∀ O R, x.holds env W O R → y.holds env W O R) : St c env (V.set k y) W O R :=
  h.write k hk (Keep.refl _ _) hn (hy _ _ (h.holds _ (List.mem_of_getElem? hk)))
end
end Go.Proofs.Ytjmkjlhnipnkcaa.Sy
end
section
set_option linter.unusedSimpArgs false
set_option linter.unusedVariables false
namespace Go.Proofs.Ytjmkjlhnipnkcaa.Sy
open Go.RowKit
inductive ZL : List Value → List D → Prop where
  | nil : ZL [] []
  | v {x : Value} {l m} : x.oneCell' = true → ZL l m → ZL (x :: l) (D.v x :: m)
  | s {size l m} : ZL l m → ZL (.slice none 0 0 :: l) (D.s size [] :: m)
theorem ZL.ok {cs : List Value} {ds : List D} (h : ZL cs ds) (W : World) (R : Nat → Prop) : cs.length = ds.length ∧ ∀ (j : Nat) (d : D), ds[j]? = some d → ∃ u : Value, cs[j]? = some u ∧ d.ok W R u ∧ u.oneCell' = true := by
  induction h with
  | nil => exact ⟨rfl, fun j d hj => by simp at hj⟩
  | v hx _ ih =>
    refine ⟨by simp [ih.1], fun j d hj => ?_⟩
    cases j with
    | zero => simp at hj; subst hj; exact ⟨_, rfl, rfl, hx⟩
    | succ j => simpa using ih.2 j d (by simpa using hj)
  | s _ ih =>
    refine ⟨by simp [ih.1], fun j d hj => ?_⟩
    cases j with
    | zero => simp at hj; subst hj; exact ⟨_, rfl, ⟨none, 0, rfl, Nat.le_refl _, Nat.zero_le _, fun _ => rfl, fun i el hi => by simp at hi⟩, rfl⟩
    | succ j => simpa using ih.2 j d (by simpa using hj)
theorem findNow_struct {fs : Array Field} (k : Value) (es : List MapEntry) (i : Nat) : Instr.findNow (.struct fs) k es i = if es = [] then some none else none := by
  cases es with
  | nil => rfl
  | cons e es =>
    simp only [Instr.findNow];have : Instr.sameNow (.struct fs) k e.key = none := by unfold Instr.sameNow; rfl
    simp [this]
section
variable {P : Program} {c : Ctx} {sz : Fm} {Q : Exit → Act → World → Prop} {t : List Item} {s : List (Nat × AV)} {V : List NEnt}
end
end Go.Proofs.Ytjmkjlhnipnkcaa.Sy
end
section
set_option linter.unusedSimpArgs false
set_option linter.unusedVariables false
namespace Go.Proofs.Ytjmkjlhnipnkcaa.Sy
open Go.RowKit
section
variable {P : Program} {o : Oper} {ρ : Operand → Option AV}
end
end Go.Proofs.Ytjmkjlhnipnkcaa.Sy
end
section
set_option linter.unusedSimpArgs false
set_option linter.unusedVariables false
namespace Go.Proofs.Ytjmkjlhnipnkcaa.Sy
open Go.RowKit
section
variable {P : Program} {o : Oper} {s : List (Nat × AV)}
end
end Go.Proofs.Ytjmkjlhnipnkcaa.Sy
end
section
set_option linter.unusedSimpArgs false
set_option linter.unusedVariables false
namespace Go.Proofs.Ytjmkjlhnipnkcaa.Sy
open Go.RowKit
noncomputable def nextAll {α ρ : Type} (L : List α) (f : α → List α → Option ρ) (e : Option ρ) : Option ρ := match L with
  | [] => e
  | a :: l => @ite _ (∀ (j : Nat) (hj : j < (a :: l).length), f (a :: l)[j] ((a :: l).eraseIdx j) = f a l) (Classical.propDecidable _) (f a l) none
theorem nextAll_inv {α ρ : Type} {L : List α} {f : α → List α → Option ρ} {e : Option ρ} {r : ρ} (h : nextAll L f e = some r) : (L = [] → e = some r) ∧ ∀ (j : Nat) (hj : j < L.length), f L[j] (L.eraseIdx j) = some r := by
  cases L with
  | nil => exact ⟨fun _ => h, fun j hj => by simp at hj⟩
  | cons a l =>
    simp only [nextAll] at h
    split at h
    · rename_i hc
      exact ⟨fun h => (nomatch h), fun j hj => by rw [hc j hj]; exact h⟩
    · cases h
theorem nextAll_of {α ρ : Type} {L : List α} {f : α → List α → Option ρ} {e : Option ρ} {r : ρ} (h0 : L = [] → e = some r) (h1 : ∀ (j : Nat) (hj : j < L.length), f L[j] (L.eraseIdx j) = some r) : nextAll L f e = some r := by
  cases L with
  | nil => exact h0 rfl
  | cons a l =>
    have h2 := h1 0 (by simp);simp only [List.getElem_cons_zero, List.eraseIdx_zero, List.tail_cons] at h2;simp only [nextAll];rw [if_pos (fun j hj => by rw [h1 j hj, h2])];exact h2
theorem erase_perm {α : Type} : ∀ {l : List α} {j : Nat} (hj : j < l.length), (l[j] :: l.eraseIdx j).Perm l := by
  intro l
  induction l with
  | nil => intro j hj; simp at hj
  | cons a l ih =>
    intro j hj
    cases j with
    | zero => exact .refl _
    | succ j =>
      simp only [List.getElem_cons_succ, List.eraseIdx_cons_succ];exact (List.Perm.swap _ _ _).trans ((ih (by simpa using hj)).cons a)
theorem perm_idx {α : Type} {ys xs : List α} (p : ys.Perm xs) {j : Nat} (hj : j < ys.length) : ∃ (i : Nat) (hi : i < xs.length), xs[i] = ys[j] ∧ (ys.eraseIdx j).Perm (xs.eraseIdx i) := by
  obtain ⟨i, hi, e⟩ := List.getElem_of_mem (p.mem_iff.1 (List.getElem_mem hj));refine ⟨i, hi, e, ?_⟩;have h1 := erase_perm hj;have h2 := erase_perm hi;rw [e] at h2;exact (h1.trans (p.trans h2.symm)).cons_inv
def unseen (es : Array MapEntry) (seen : Array Nat) : List MapEntry := es.toList.filter fun e => !seen.contains e.born
theorem find_born : ∀ {es : List MapEntry}, (es.map (·.born)).Nodup → ∀ {e : MapEntry}, e ∈ es → es.find? (fun x => x.born == e.born) = some e := by
  intro es
  induction es with
  | nil => intro _ e h; cases h
  | cons a l ih =>
    intro hn e he;rw [List.map_cons, List.nodup_cons] at hn;rw [List.find?_cons];rcases List.mem_cons.1 he with rfl | he
    · simp
    · have : (a.born == e.born) = false := by
        have : a.born ≠ e.born := fun h => hn.1 (h ▸ List.mem_map.2 ⟨e, he, rfl⟩)
        simpa using this
      simp only [this, ih hn.2 he]
theorem erase_filter {α : Type} [DecidableEq α] {f : MapEntry → α} : ∀ {l : List MapEntry}, (l.map f).Nodup → ∀ (j : Nat) (hj : j < l.length), l.filter (fun e => !(f e == f l[j])) = l.eraseIdx j := by
  intro l
  induction l with
  | nil => intro _ j hj; simp at hj
  | cons a l ih =>
    intro hn j hj;rw [List.map_cons, List.nodup_cons] at hn
    cases j with
    | zero =>
      simp only [List.getElem_cons_zero, List.filter_cons, BEq.rfl, Bool.not_true, Bool.false_eq_true, if_false, List.eraseIdx_zero, List.tail_cons];rw [List.filter_eq_self];intro x hx;have : f x ≠ f a := fun h => hn.1 (h ▸ List.mem_map.2 ⟨x, hx, rfl⟩)
      simpa using this
    | succ j =>
      simp only [List.length_cons, Nat.add_lt_add_iff_right] at hj;simp only [List.getElem_cons_succ, List.eraseIdx_cons_succ, List.filter_cons];have : f a ≠ f l[j] := fun h => hn.1 (h ▸ List.mem_map.2 ⟨_, List.getElem_mem hj, rfl⟩)
      have h2 : (f a == f l[j]) = false := by simpa using this
      simp only [h2, Bool.not_false, if_true, ih hn.2 j hj]
theorem unseen_push {es : Array MapEntry} {seen : Array Nat} (hn : (es.toList.map (·.born)).Nodup) (j : Nat) (hj : j < (unseen es seen).length) : unseen es (seen.push ((unseen es seen)[j]).born) = (unseen es seen).eraseIdx j := by
  refine Eq.trans ?_ (erase_filter (f := MapEntry.born) (l := unseen es seen) (hn.sublist (List.filter_sublist.map _)) j hj)
  generalize ((unseen es seen)[j]).born = q
  simp only [unseen, List.filter_filter]
  congr 1
  funext e
  rw [Array.contains_push];cases seen.contains e.born <;> cases h : (e.born == q) <;> rfl
def mitI {κ ν : Type} (ek : κ → Value) (ag : Bool) (ev : ν → List D) (left : List (κ × ν)) (cur : Option (κ × ν)) : Inv :=
  ⟨fun W O R v => ∃ it m seen cl es ys, v = .pointer (some ⟨it, 0, none⟩) ∧ O it ∧ W.heap[it]? = some (.mapIter (some m) cl seen cl) ∧ R m ∧ W.heap[m]? = some (.map es cl) ∧ BornOk es.toList cl ∧ EsOk ek ag ev W R (unseen es seen) ys ∧ ys.Perm left ∧
      ∀ x, cur = some x → ∃ e, seen.back? = some e.born ∧ e ∈ es.toList ∧ e.key = ek x.1 ∧ VOk ag (ev x.2) W R e.val,
   fun W W' O R R' hO hR v ⟨it, m, seen, cl, es, ys, h1, h2, h3, h4, h5, h6, h7, h8, h9⟩ => ⟨it, m, seen, cl, es, ys, h1, h2, (hO it h2).trans h3, (hR m h4).1, (hR m h4).2.trans h5, h6, h7.keep hR, h8,
      fun x hx => by obtain ⟨e, g1, g2, g3, g4⟩ := h9 x hx; exact ⟨e, g1, g2, g3, g4.keep hR⟩⟩⟩
def drawnW (W : World) (d : Nat) : World := { W with drawn := d }
theorem St.drawn {c : Ctx} {env : Env} {V : List NEnt} {W : World} {O : Nat → Nat → Prop} {R : Nat → Prop} (h : St c env V W O R) (d : Nat) : St c env V (drawnW W d) O R :=
  ⟨⟨h.keep.os, h.keep.tape, h.keep.output, h.keep.size, h.keep.block⟩, fun x hx => NEnt.holds_keep (W := W) (W' := drawnW W d) (fun _ _ => rfl) (fun _ hb => ⟨hb, rfl⟩) (h.holds x hx), h.own, h.apart, h.ro, h.r0, h.names⟩
theorem run_chooseNext {P : Program} {W : World} (n : Nat) (hn : 0 < n) : ∃ j d, j < n ∧ (choose (.mapNext n)).run P W = .ok j (drawnW W d) := by
  by_cases h : n ≤ 1
  · exact ⟨0, W.drawn, hn, by simp [choose, Sem.run, Question.forced, h, drawnW]⟩
  · refine ⟨W.tape W.drawn (.mapNext n) % n, W.drawn + 1, Nat.mod_lt _ hn, ?_⟩;simp only [choose, Sem.run, Question.forced, decide_eq_true_eq, h, if_false, Question.cut, drawnW]
section
variable {P : Program}
theorem run_nextMap {W : World} {it m cl T : Nat} {seen : Array Nat} {es : Array MapEntry} (h1 : W.heap[it]? = some (.mapIter (some m) cl seen cl)) (h2 : W.heap[m]? = some (.map es cl)) (hb : BornOk es.toList cl) :
    ∃ d, (unseen es seen = [] ∧ (Instr.next (.pointer (some ⟨it, 0, none⟩)) false T).run P W = .ok (.tuple #[.bool false]) (drawnW W d)) ∨
      ∃ (j : Nat) (hj : j < (unseen es seen).length), (Instr.next (.pointer (some ⟨it, 0, none⟩)) false T).run P W = .ok (.tuple #[.bool true, ((unseen es seen)[j]).key, ((unseen es seen)[j]).val]) ((drawnW W d).putObj it (.mapIter (some m) cl (seen.push ((unseen es seen)[j]).born) cl)) := by
  have hge : (es.all fun e => decide (e.born ≥ cl)) = true → es.isEmpty = true := by
    intro h
    by_cases h0 : es.toList = []
    · simpa using h0
    · obtain ⟨e, l, he⟩ := List.exists_cons_of_ne_nil h0;have := hb.2 e.born (by rw [he]; simp);rw [← Array.all_toList] at h;have h3 := List.all_eq_true.1 h e (by rw [he]; simp);simp at h3; omega
  have hpre : (!seen.isEmpty && !es.isEmpty && es.all fun e => decide (e.born ≥ cl)) = false := by
    cases h : (es.all fun e => decide (e.born ≥ cl))
    · simp
    · simp [hge h]
  have hg1 : (getObj it).run P W = .ok (.mapIter (some m) cl seen cl) W := by simp [getObj, Sem.run, h1]
  have hg2 : (getObj m).run P W = .ok (.map es cl) W := by simp [getObj, Sem.run, h2]
  obtain ⟨L, hL⟩ : ∃ L, L = es.filter fun e => !seen.contains e.born := ⟨_, rfl⟩
  have hLl : L.toList = unseen es seen := by rw [hL]; simp [unseen]
  have hold : L.filter (fun e => decide (e.born < cl)) = L := by
    apply Array.toList_inj.1;rw [Array.toList_filter, List.filter_eq_self];intro e he;rw [hLl] at he;have := hb.2 e.born (List.mem_map.2 ⟨e, (List.mem_filter.1 he).1, rfl⟩)
    simpa using this
  have hnew : L.filter (fun e => decide (e.born ≥ cl)) = #[] := by
    apply Array.toList_inj.1;rw [Array.toList_filter];show _ = [];rw [List.filter_eq_nil_iff];intro e he;rw [hLl] at he;have := hb.2 e.born (List.mem_map.2 ⟨e, (List.mem_filter.1 he).1, rfl⟩);simp; omega
  have hrun : (Instr.next (.pointer (some ⟨it, 0, none⟩)) false T).run P W = ((choose (.mapNext ((if L.isEmpty then #[none] else #[]) ++ (L ++ #[]).map some).size)).run P W).andThen fun i w =>
      (match ((if L.isEmpty then #[none] else #[]) ++ (L ++ #[]).map some)[i]? with
        | some (some e) => (do setObj it (.mapIter (some m) cl (seen.push e.born) cl); pure (.tuple #[.bool true, e.key, e.val]) : Sem Value)
        | some none => pure (.tuple #[.bool false])
        | none => stuck "Next: no such candidate").run P w := by
    simp only [Instr.next, Sem.run_bind, hg1, Result.andThen_ok, hg2, hpre, Bool.false_eq_true, if_false, Sem.run_pure, ← hL, hold, hnew]
    rfl
  by_cases h0 : unseen es seen = []
  · have hLe : L = #[] := Array.toList_inj.1 (by rw [hLl, h0]);subst hLe;obtain ⟨j, d, hj, hc⟩ := run_chooseNext (P := P) (W := W) 1 (by omega);have : j = 0 := by omega
    subst this;refine ⟨d, .inl ⟨h0, ?_⟩⟩;have hC : ((if (#[] : Array MapEntry).isEmpty then #[none] else #[]) ++ ((#[] : Array MapEntry) ++ #[]).map some) = #[none] := by simp
    rw [hrun, hC, show (#[none] : Array (Option MapEntry)).size = 1 from rfl, hc]
    rfl
  · have hLe : L.isEmpty = false := by
      cases h : L.isEmpty
      · rfl
      · exfalso; apply h0; rw [← hLl]; simpa using h
    have hsz : ((if L.isEmpty then #[none] else #[]) ++ (L ++ #[]).map some).size = L.size := by simp [hLe]
    have hpos : 0 < L.size := by
      rcases Nat.eq_zero_or_pos L.size with h | h
      · exfalso; apply h0; rw [← hLl]; exact List.eq_nil_of_length_eq_zero (by simpa using h)
      · exact h
    obtain ⟨j, d, hj, hc⟩ := run_chooseNext (P := P) (W := W) L.size hpos;have hju : j < (unseen es seen).length := by rw [← hLl]; simpa using hj
    have hLj : L[j]? = some (unseen es seen)[j] := by
      rw [← Array.getElem?_toList, hLl]; exact List.getElem?_eq_getElem hju
    refine ⟨d, .inr ⟨j, hju, ?_⟩⟩;have h1' : (drawnW W d).heap[it]? = some (.mapIter (some m) cl seen cl) := h1;rw [hrun, hsz, hc];simp only [Result.andThen_ok, hLe, Bool.false_eq_true, if_false, Array.empty_append, Array.append_empty, Array.getElem?_map, hLj, Option.map_some, Sem.run_bind];have hset : (setObj it (.mapIter (some m) cl (seen.push ((unseen es seen)[j]).born) cl)).run P (drawnW W d) = .ok () ((drawnW W d).putObj it (.mapIter (some m) cl (seen.push ((unseen es seen)[j]).born) cl)) := by
      simp [setObj, Sem.run, h1', World.putObj]
    simp only [hset, Result.andThen_ok, Sem.run_pure]
end
section
variable {P : Program} {o : Oper} {ρ : Operand → Option AV}
theorem sp_range {κ ν : Type} {M K V m : Nat} (n : Nat) {x : Operand} {ek : κ → Value} {ag : Bool} {ev : ν → List D} {xs : List (κ × ν)} (ho : o.op = .range M x) (hx : ρ x = some (.ref m)) (hM : P.underlying M = some (.map K V)) :
    OpSpec P o ρ [.any m (mapI ek ag ev xs).froz] (.ref n) [.inv n (mitI ek ag ev xs none)] := by
  intro evl env W O R he hn _ hR;obtain ⟨O', hO', r, cl, es, ys, h1, hOr, h2, h3, h4⟩ := hn _ (List.mem_singleton.2 rfl);have hx' := he x _ hx;simp only [AV.den, NEnt.name] at hx' h1;simp only [h1, oneOf] at hx';have : (execOp evl o).run P W = .ok (.value (.pointer (some ⟨W.heap.size, 0, none⟩))) (W.alloc (.mapIter (some r) cl #[] cl)) := by
    simp [execOp, ho, hx', Instr.range, run_underlying hM, getObj_map h2, run_newObj_alloc]
  rw [this];refine ⟨setEnv env n (.pointer (some ⟨W.heap.size, 0, none⟩)), fun _ b => b = W.heap.size, R, fun q hq => setEnv_other (hq _ (List.mem_singleton.2 rfl)), by simp [AV.den, setEnv_same, oneOf], ?_⟩;refine St.fresh (keep_alloc W _) hR ?_ (fun b hb => by subst hb; simp);simp only [NEnt.holds, setEnv_same];have hlt : r < W.heap.size := (Array.getElem?_eq_some_iff.1 h2).1;have hk : ∀ b, R b → R b ∧ (W.alloc (.mapIter (some r) cl #[] cl)).heap[b]? = W.heap[b]? := fun b hb => ⟨hb, Below.heap_alloc _ _ _ (hR b hb)⟩
  refine ⟨_, r, #[], cl, es, ys, rfl, rfl, World.alloc_heap_new W _, hO' r hOr, (Below.heap_alloc _ _ _ hlt).trans h2, h4.2.2, ?_, h4.1, fun x hx => by cases hx⟩;have : unseen es #[] = es.toList := by simp [unseen]
  rw [this];exact h3.keep hk
theorem sp_entry {κ ν : Type} {n : Nat} {x : Operand} {ek : κ → Value} {ag : Bool} {ev : ν → List D} {left : List (κ × ν)} {c : κ × ν} {ka va : AV} {as_ : List AV} {ns : List NEnt} (ho : o.op = .entry x) (hx : ρ x = some (.ref n)) (hka : ∀ e, ka.den e = ek c.1)
    (hd : DAL (ev c.2) as_ ns) (hns : nodupB (ns.map NEnt.name) = true) (hv : va = if ag then .agg as_ else as_.headD (.val undef)) : OpSpec P o ρ [.inv n (mitI ek ag ev left (some c))] (.tup [ka, va]) ns := by
  intro evl env W O R he hn _ hR;obtain ⟨it, m, seen, cl, es, ys, h1, h2, h3, h4, h5, h6, h7, h8, h9⟩ := hn _ (List.mem_singleton.2 rfl);obtain ⟨e, g1, g2, g3, g4⟩ := h9 _ rfl;have hx' := he x _ hx;simp only [AV.den, NEnt.name] at hx' h1;simp only [h1, oneOf] at hx';have hg1 : (getObj it).run P W = .ok (.mapIter (some m) cl seen cl) W := by simp [getObj, Sem.run, h3]
  have hg2 : (getObj m).run P W = .ok (.map es cl) W := by simp [getObj, Sem.run, h5]
  have hf : es.find? (fun x => x.born == e.born) = some e := by rw [← Array.find?_toList]; exact find_born h6.1 g2
  have : (execOp evl o).run P W = .ok (.value (.tuple #[e.key, e.val])) W := by
    simp [execOp, ho, hx', Instr.entry, hg1, hg2, g1, hf]
  rw [this];obtain ⟨cs, hc1, hc2, hc3, hc4⟩ := g4;obtain ⟨env', e1, e2, e3⟩ := hd.ok env W R cs (by omega) (fun j d hj => by obtain ⟨u, g1, g2, _⟩ := hc4 j d hj; exact ⟨u, g1, g2⟩) (nodup_of_B hns);refine ⟨env', _, R, e1, ?_, St.roNews hR e3 (nodup_of_B hns)⟩;have hu' : va.den env' = e.val := by
    subst hv;rw [hc2];cases ag
    · cases as_ with
      | nil => simp only [AV.denL] at e2; subst e2; rfl
      | cons a l => simp only [AV.denL] at e2; subst e2; rfl
    · simp only [if_true, AV.den, e2]
  simp only [AV.den, AV.denL, hu', hka, g3]
end
section
variable {P : Program} {c : Ctx} {sz : Fm} {Q : Exit → Act → World → Prop} {t : List Item} {s : List (Nat × AV)} {V : List NEnt} {ops : Array Oper} {rest : List Oper} {o1 o2 : Oper}
theorem TL.next {κ ν : Type} {n it d1 d2 : Nat} {ek : κ → Value} {ag : Bool} {ev : ν → List D} {left : List (κ × ν)} {cur : Option (κ × ν)} (i : Nat) (hi : V[i]? = some (.inv n (mitI ek ag ev left cur))) (ho1 : o1.op = .next (.tmp it) false) (hg1 : o1.guard = none) (hd1 : o1.dst = some d1)
    (hx : look s it = some (.ref n)) (ho2 : o2.op = .extract (.tmp d1) 0) (hg2 : o2.guard = none) (hd2 : o2.dst = some d2) (hn : look s d1 = none) (hl1 : Nat.blt d1 sz.sz = true) (hl2 : Nat.blt d2 sz.sz = true)
    (h0 : left = [] → TL P c sz Q ops rest t ((d2, .val (.bool false)) :: s) V)
    (h1 : ∀ (j : Nat) (hj : j < left.length), TL P c sz Q ops rest t ((d2, .val (.bool true)) :: s) (V.set i (.inv n (mitI ek ag ev (left.eraseIdx j) (some left[j]))))) :
    TL P c sz Q ops (o1 :: o2 :: rest) t s V := by
  intro env tm W O R hfr hst;rw [Nat.blt_eq] at hl1 hl2;have hm := List.mem_of_getElem? hi;obtain ⟨itb, m, seen, cl, es, ys, e1, hO, g1, hR, g2, hb, hes, hp, hc⟩ := hst.holds _ hm;have hxe : (Act.eval ⟨tm, sz.df⟩ (.tmp it)) = .pointer (some ⟨itb, 0, none⟩) := by
    have := rho_eval (df := sz.df) hfr (x := .tmp it) hx;simp only [AV.den, NEnt.name] at this e1
    simpa [e1, oneOf] using this
  have hw1 : Wanted ops s o1 := by simp only [Wanted, hg1]
  have hw2 : Wanted ops s o2 := by simp only [Wanted, hg2]
  unfold wpListIn;rw [if_pos (wanted_of hfr hw1)];refine Does.inn (K := fun u W' => ∃ b, ((∃ k v, u = .tuple #[.bool true, k, v]) ∨ u = .tuple #[.bool false]) ∧ (b = true ↔ ∃ k v, u = .tuple #[.bool true, k, v]) ∧
      ((left = [] ∧ b = false ∧ St c env V W' O R) ∨ ∃ (j : Nat) (hj : j < left.length), b = true ∧ St c env (V.set i (.inv n (mitI ek ag ev (left.eraseIdx j) (some left[j])))) W' O R)) ?_ ?_
  · have hrun : ∀ u W', (Instr.next (.pointer (some ⟨itb, 0, none⟩)) false o1.type).run P W = .ok u W' → (execOp (Act.eval ⟨tm, sz.df⟩) o1).run P W = .ok (.value u) W' := by
      intro u W' h;simp only [execOp, ho1, hxe, Sem.run_bind, h, Result.andThen_ok, Sem.run_pure]
    obtain ⟨d, hd | ⟨j, hj, hd⟩⟩ := run_nextMap (P := P) (T := o1.type) g1 g2 hb
    · rw [hrun _ _ hd.2];refine ⟨false, .inr rfl, ⟨fun h => (by cases h), fun ⟨k, v, h⟩ => by simp at h⟩, .inl ⟨?_, rfl, hst.drawn d⟩⟩;have h2 := hes.len;rw [hd.1] at h2;exact List.eq_nil_of_length_eq_zero (by rw [← hp.length_eq]; simpa using h2.symm)
    · rw [hrun _ _ hd];have hjy : j < ys.length := by rw [← hes.len]; exact hj
      obtain ⟨i', hi', ex, pe⟩ := perm_idx hp hjy;refine ⟨true, .inl ⟨_, _, rfl⟩, ⟨fun _ => ⟨_, _, rfl⟩, fun _ => rfl⟩, .inr ⟨i', hi', rfl, ?_⟩⟩;have hst' := hst.drawn d;have hmm : m ≠ itb := fun e => (hst.own _ hm itb hO).2.2 (e ▸ hR)
      have hlt : itb < (drawnW W d).heap.size := (Array.getElem?_eq_some_iff.1 g1).1;have hRn : ∀ b, R b → b ≠ itb := fun b hb e => (hst.own _ hm itb hO).2.2 (e ▸ hb)
      refine hst'.write i hi ⟨rfl, rfl, rfl, by simp, fun b _ hb => World.putObj_heap_other fun e => hb (e ▸ hO)⟩ rfl ?_;obtain ⟨e, he, hk, hv⟩ := hes.at (i := j) (x := ys[j]) (List.getElem?_eq_getElem hjy);have hkeep : ∀ b, R b → R b ∧ ((drawnW W d).putObj itb (.mapIter (some m) cl (seen.push ((unseen es seen)[j]).born) cl)).heap[b]? = W.heap[b]? := fun b hb => ⟨hb, World.putObj_heap_other (hRn b hb)⟩
      have hej : (unseen es seen)[j] = e := by rw [List.getElem?_eq_getElem hj] at he; exact Option.some.inj he
      refine ⟨itb, m, _, cl, es, _, e1, hO, World.putObj_heap_same hlt, hR, (World.putObj_heap_other hmm).trans g2, hb, ?_, pe, ?_⟩
      · rw [unseen_push hb.1 j hj];exact (hes.erase j).keep hkeep
      · intro x hx;cases hx;refine ⟨e, by rw [hej]; simp, ?_, by rw [ex]; exact hk, by rw [ex]; exact hv.keep hkeep⟩;rw [← hej];exact (List.mem_filter.1 (List.getElem_mem hj)).1
  rintro u W' ⟨b, hu, hbu, hcase⟩
  rw [hd1];have hfr1 : Fr env sz.sz s (tm.setIfInBounds d1 u) := hfr.putNone hn;have hge : (tm.setIfInBounds d1 u)[d1]? = some u := by rw [Array.getElem?_setIfInBounds, if_pos rfl, if_pos (by rw [hfr.1]; exact hl1)]
  have hu0 : ∃ cs : Array Value, u = .tuple cs ∧ cs[0]? = some (.bool b) := by
    rcases hu with ⟨k, v, rfl⟩ | rfl
    · have : b = true := hbu.2 ⟨_, _, rfl⟩;subst this; exact ⟨_, rfl, rfl⟩
    · cases b
      · exact ⟨_, rfl, rfl⟩
      · obtain ⟨k, v, h⟩ := hbu.1 rfl; simp at h
  obtain ⟨cs, hcs, hc0⟩ := hu0;show wpListIn (fw sz.ro) 0 P ops _ (o2 :: rest) ⟨tm.setIfInBounds d1 u, sz.df⟩ W';unfold wpListIn;rw [if_pos (wanted_of hfr1 hw2)];have hrun2 : (execOp (Act.eval ⟨tm.setIfInBounds d1 u, sz.df⟩) o2).run P W' = .ok (.value (.bool b)) W' := by
    have hg : (tm.setIfInBounds d1 u).getD d1 undef = u := by rw [Array.getD_eq_getD_getElem?, hge]; rfl
    simp only [execOp, ho2, Act.eval, hg, Instr.extract, Sem.run_bind];rw [hcs];simp only [hc0, Sem.run_pure, Result.andThen_ok]
  refine Does.inn (K := fun v w => v = .bool b ∧ w = W') ?_ ?_
  · rw [hrun2]; exact ⟨rfl, rfl⟩
  rintro v w ⟨rfl, rfl⟩
  rw [hd2];rcases hcase with ⟨hl, rfl, hs⟩ | ⟨j, hj, rfl, hs⟩
  · exact h0 hl env _ w O R (hfr1.put hl2 (a := .val (.bool false))) hs
  · exact h1 j hj env _ w O R (hfr1.put hl2 (a := .val (.bool true))) hs
theorem TC.forget {κ ν : Type} {n : Nat} {ek : κ → Value} {ag : Bool} {ev : ν → List D} {left : List (κ × ν)} {cur : Option (κ × ν)} (k : Nat) (hk : V[k]? = some (.inv n (mitI ek ag ev left cur))) (h : TC P c sz Q t s (V.set k (.inv n (mitI ek ag ev left none)))) : TC P c sz Q t s V :=
  fun env tm W O R hf hst => h env tm W O R hf (hst.weaken hk rfl fun O R ⟨it, m, seen, cl, es, ys, h1, h2, h3, h4, h5, h6, h7, h8, _⟩ => ⟨it, m, seen, cl, es, ys, h1, h2, h3, h4, h5, h6, h7, h8, fun x hx => by cases hx⟩)
end
end Go.Proofs.Ytjmkjlhnipnkcaa.Sy
end
section
set_option linter.unusedSimpArgs false
set_option linter.unusedVariables false
namespace Go.Proofs.Ytjmkjlhnipnkcaa.Sy
open Go.RowKit
section
variable {κ ν : Type} [BEq κ]
end
def Inv.at (I : Inv) (val : Value) : Inv := ⟨fun W O R v => v = val ∧ I.ok W O R v, fun W W' O R R' hO hR v h => ⟨h.1, I.keep W W' O R R' hO hR v h.2⟩⟩
theorem St.rename {c : Ctx} {env : Env} {V : List NEnt} {W : World} {O : Nat → Nat → Prop} {R : Nat → Prop} {k : Nat} {x y : NEnt} (h : St c env V W O R) (hk : V[k]? = some x) (hyn : y.name ∉ V.map NEnt.name) (hy : y.holds env W (O x.name) R) :
    ∃ O2, St c env (V.set k y) W O2 R := by
  classical
  have hx : x ∈ V := List.mem_of_getElem? hk;have hne : y.name ≠ x.name := fun e => hyn (e ▸ List.mem_map.2 ⟨x, hx, rfl⟩)
  have hc : ∀ z ∈ V.set k y, z = y ∨ (z ∈ V ∧ z.name ≠ x.name ∧ z.name ≠ y.name) := fun z hz => by
    rcases mem_set_cases h.names hk hz with e | ⟨h1, h2⟩
    · exact .inl e
    · exact .inr ⟨h1, h2, fun e => hyn (e ▸ List.mem_map.2 ⟨z, h1, rfl⟩)⟩
  refine ⟨fun n b => if n = y.name then O x.name b else O n b, h.keep, fun z hz => ?_, fun z hz b hb => ?_, fun z hz z2 hz2 hn b hb => ?_, h.ro, h.r0, ?_⟩
  · rcases hc z hz with rfl | ⟨h1, h2, h3⟩
    · simp only [if_true]; exact hy
    · simp only [h3, if_false]; exact h.holds z h1
  · rcases hc z hz with rfl | ⟨h1, h2, h3⟩
    · simp only [if_true] at hb; exact h.own x hx b hb
    · simp only [h3, if_false] at hb; exact h.own z h1 b hb
  · rcases hc z hz with rfl | ⟨h1, h2, h3⟩ <;> rcases hc z2 hz2 with rfl | ⟨g1, g2, g3⟩
    · exact hn rfl
    · simp only [if_true, g3, if_false] at hb; exact h.apart x hx z2 g1 (Ne.symm g2) b hb
    · simp only [if_true, h3, if_false] at hb; exact h.apart z h1 x hx h2 b hb
    · simp only [h3, g3, if_false] at hb; exact h.apart z h1 z2 g1 hn b hb
  · have : (V.set k y).map NEnt.name = (V.map NEnt.name).set k y.name := List.map_set;rw [this];have hlt := (List.getElem?_eq_some_iff.1 hk).1;rw [List.nodup_iff_pairwise_ne, List.pairwise_iff_getElem];have hnd := List.pairwise_iff_getElem.1 (List.nodup_iff_pairwise_ne.1 h.names);have hm : ∀ i (hi : i < (V.map NEnt.name).length), (V.map NEnt.name)[i] ≠ y.name := fun i hi e => hyn (e ▸ List.getElem_mem hi)
    intro i j hi hj hij;rw [List.length_set] at hi hj;rw [List.getElem_set, List.getElem_set]
    split <;> split
    · omega
    · exact (hm j hj).symm
    · exact hm i hi
    · exact hnd i j hi hj hij
section
variable {P : Program} {c : Ctx} {sz : Fm} {Q : Exit → Act → World → Prop} {t : List Item} {s : List (Nat × AV)} {V : List NEnt} {o : Oper} {ops : Array Oper} {rest : List Oper}
end
end Go.Proofs.Ytjmkjlhnipnkcaa.Sy
end
section
set_option linter.unusedSimpArgs false
set_option linter.unusedVariables false
namespace Go.Proofs.Ytjmkjlhnipnkcaa.Sy
open Go.RowKit
theorem EsOk.of {κ ν : Type} {ek : κ → Value} {ag : Bool} {ev : ν → List D} {W : World} {R : Nat → Prop} : ∀ {es : List MapEntry} {xs : List (κ × ν)}, es.map (·.key) = (xs.map (·.1)).map ek → (∀ (i : Nat) (e : MapEntry) (x : κ × ν), es[i]? = some e → xs[i]? = some x → VOk ag (ev x.2) W R e.val) → EsOk ek ag ev W R es xs := by
  intro es
  induction es with
  | nil => intro xs h _; cases xs with
    | nil => exact .nil
    | cons => simp at h
  | cons a l ih =>
    intro xs h hv
    cases xs with
    | nil => simp at h
    | cons x xs =>
      simp only [List.map_cons, List.cons.injEq] at h;exact .cons h.1 (hv 0 a x rfl rfl) (ih h.2 fun i e y he hy => hv (i + 1) e y he hy)
section
variable {P : Program} {c : Ctx} {sz : Fm} {Q : Exit → Act → World → Prop} {t : List Item} {s : List (Nat × AV)} {V : List NEnt} {ops : Array Oper} {rest : List Oper}
end
section
variable {P : Program} {s : List (Nat × AV)} {o : Oper} {ρ : Operand → Option AV}
end
def Sel {α : Type} (L : List α) (x : α) (l : List α) : Prop := ∃ (j : Nat) (hj : j < L.length), x = L[j] ∧ l = L.eraseIdx j
theorem nextAll_sel {α ρ : Type} {L : List α} {f : α → List α → Option ρ} {e : Option ρ} {r : ρ} (h : nextAll L f e = some r) {x : α} {l : List α} (hs : Sel L x l) : f x l = some r := by
  obtain ⟨j, hj, rfl, rfl⟩ := hs;exact (nextAll_inv h).2 j hj
theorem nextAll_end {α ρ : Type} {L : List α} {f : α → List α → Option ρ} {e : Option ρ} {r : ρ} (h : nextAll L f e = some r) (hL : L = []) : e = some r := (nextAll_inv h).1 hL
section
variable {P : Program} {c : Ctx} {sz : Fm} {Q : Exit → Act → World → Prop} {t : List Item} {s : List (Nat × AV)} {V : List NEnt} {ops : Array Oper} {rest : List Oper} {o1 o2 : Oper}
theorem TL.nextS {κ ν : Type} {n it d1 d2 : Nat} {ek : κ → Value} {ag : Bool} {ev : ν → List D} {left : List (κ × ν)} {cur : Option (κ × ν)} (i : Nat) (hi : V[i]? = some (.inv n (mitI ek ag ev left cur))) (ho1 : o1.op = .next (.tmp it) false) (hg1 : o1.guard = none) (hd1 : o1.dst = some d1)
    (hx : look s it = some (.ref n)) (ho2 : o2.op = .extract (.tmp d1) 0) (hg2 : o2.guard = none) (hd2 : o2.dst = some d2) (hn : look s d1 = none) (hl1 : Nat.blt d1 sz.sz = true) (hl2 : Nat.blt d2 sz.sz = true)
    (h0 : left = [] → TL P c sz Q ops rest t ((d2, .val (.bool false)) :: s) V)
    (h1 : ∀ (x : κ × ν) (l : List (κ × ν)), Sel left x l → TL P c sz Q ops rest t ((d2, .val (.bool true)) :: s) (V.set i (.inv n (mitI ek ag ev l (some x))))) :
    TL P c sz Q ops (o1 :: o2 :: rest) t s V :=
  TL.next i hi ho1 hg1 hd1 hx ho2 hg2 hd2 hn hl1 hl2 h0 fun j hj => h1 _ _ ⟨j, hj, rfl, rfl⟩
end
theorem OpSpec.froz {P : Program} {o : Oper} {ρ : Operand → Option AV} {need : List NEnt} {v : AV} {news : List NEnt} {x : NEnt} (j : Nat) (hj : news[j]? = some x) (h : OpSpec P o ρ need v news) : OpSpec P o ρ need v (news.set j x.toRo) := by
  intro ev env W O R he hn hO hR;refine (h ev env W O R he hn hO hR).mono ?_
  rintro u W' ⟨env', O', R', he', hu, hst⟩
  refine ⟨env', _, _, fun n hn => he' n fun y hy => ?_, hu, hst.freeze j hj⟩;have hnm := set_names (y := x.toRo) hj (NEnt.toRo_name x);have : y.name ∈ (news.set j x.toRo).map NEnt.name := by rw [hnm]; exact List.mem_map.2 ⟨y, hy, rfl⟩
  obtain ⟨z, hz, e⟩ := List.mem_map.1 this;rw [← e]; exact hn z hz
theorem findAsk2 {P : Program} {K : TypeId} {κ : Type} [BEq κ] [LawfulBEq κ] {ek : κ → Value} (hq : ∀ k k' w, (Op.equal K (ek k) (ek k')).run P w = .ok (k == k') w) (k : κ) : ∀ (es : List MapEntry) (ks : List κ) (i : Nat) (w : World), es.map (·.key) = ks.map ek →
    (Instr.findAsking K (ek k) es i).run P w = .ok ((ks.findIdx? (· == k)).bind fun j => (es[j]?).map fun e => (i + j, e.val)) w := by
  intro es
  induction es with
  | nil => intro ks i w h; cases ks <;> first | rfl | cases h
  | cons e es ih =>
    intro ks i w h
    cases ks with
    | nil => cases h
    | cons z ks =>
      simp only [List.map_cons, List.cons.injEq] at h;simp only [Instr.findAsking, h.1, Sem.run_bind, hq, Result.andThen_ok, List.findIdx?_cons]
      by_cases hz : k = z
      · subst hz; simp
      · have h1 : (k == z) = false := by simpa using hz
        have h2 : (z == k) = false := by simpa using Ne.symm hz
        simp only [h1, Bool.false_eq_true, if_false, h2, ih ks (i + 1) w h.2];cases ks.findIdx? (· == k) <;> simp
        rename_i j
        cases es[j]? <;> simp
        omega
theorem mkey_agg2 {P : Program} {M K V : TypeId} {κ : Type} [BEq κ] [LawfulBEq κ] {ek : κ → Value} {dK : TypeDesc} (hu : P.underlying M = some (.map K V)) (hK : P.underlying K = some dK) (hd : ∀ k es i, Instr.findNow dK k es i = if es = [] then some none else none) (hc : ∀ b k w, (Instr.checkKey b 10000 K (ek k)).run P w = .ok () w)
    (hq : ∀ k k' w, (Op.equal K (ek k) (ek k')).run P w = .ok (k == k') w) (hs : ∀ k, Instr.sameBits 10000 (ek k) (ek k) = true) : MKey P M K V ek where
  under := hu
  check := hc
  find k es ks w h := by
    simp only [Instr.findKey, Sem.run_bind, run_underlying hK, Result.andThen_ok, hd]
    cases es with
    | nil => cases ks <;> first | rfl | cases h
    | cons e es =>
      simp only [reduceCtorEq, if_false];have := findAsk2 hq k (e :: es) ks 0 w h
      simpa using this
  stay k w := by simp [Instr.keyThatStays, hs]
  eq ks k i x h1 h2 := by
    obtain ⟨h3, h4, _⟩ := List.findIdx?_eq_some_iff_getElem.1 h1;rw [List.getElem?_eq_getElem h3] at h2;cases h2;simp only [beq_iff_eq] at h4;rw [h4]
end Go.Proofs.Ytjmkjlhnipnkcaa.Sy
end
section
set_option linter.unusedSimpArgs false
set_option linter.unusedVariables false
namespace Go.Proofs.Ytjmkjlhnipnkcaa.Sy
open Go.RowKit
end Go.Proofs.Ytjmkjlhnipnkcaa.Sy
end
section
set_option linter.unusedSimpArgs false
set_option linter.unusedVariables false
namespace Go.Proofs.Ytjmkjlhnipnkcaa.Sy
open Go.RowKit
section
variable {P : Program} {c : Ctx} {sz : Fm} {Q : Exit → Act → World → Prop} {t : List Item} {s : List (Nat × AV)} {V : List NEnt} {ops : Array Oper} {rest : List Oper} {o : Oper} {ρ : Operand → Option AV}
theorem TL.pin (g n : Nat) (hf : (!hasS g s && !hasV g V) = true) (hg : Nat.beq g n = false) (h : ∀ u, TL P c sz Q ops rest t s (.pin g n u :: V)) : TL P c sz Q ops rest t s V := by
  simp only [Bool.and_eq_true, Bool.not_eq_true'] at hf;intro env tm W O R hfr hst;have hgn : g ≠ n := fun e => by subst e; rw [Nat.beq_refl] at hg; cases hg
  have hst' := hst.addRo (x := .pin g n (env n)) (v := .bool false) hf.2 fun O => by
    simp only [NEnt.holds, NEnt.name, setEnv_other hgn]
  exact h (env n) _ tm W _ R (hfr.congr fun m hm => (setEnv_other fun e => by subst e; simp only [NEnt.name] at hm; rw [hf.1] at hm; cases hm).symm) hst'
end
section
variable {X : Type} {T' n : Nat} {enc : X → List Value} {xs : List X}
variable {P : Program} {s : List (Nat × AV)} {o : Oper} {ρ : Operand → Option AV}
variable {c : Ctx} {sz : Fm} {Q : Exit → Act → World → Prop} {t : List Item} {V : List NEnt} {ops : Array Oper} {rest : List Oper}
theorem TSpec.froz {P : Program} {o : Oper} {ρ : Operand → Option AV} {take need : List NEnt} {v : AV} {news : List NEnt} {x : NEnt} (j : Nat) (hj : news[j]? = some x) (h : TSpec P o ρ take need v news) : TSpec P o ρ take need v (news.set j x.toRo) := by
  intro ev c env V W O R he hst ht hk hn;have hnm := set_names (y := x.toRo) hj (NEnt.toRo_name x);have hmem : ∀ y ∈ news, ∃ z ∈ news.set j x.toRo, z.name = y.name := fun y hy => by
    have : y.name ∈ (news.set j x.toRo).map NEnt.name := by rw [hnm]; exact List.mem_map.2 ⟨y, hy, rfl⟩
    obtain ⟨z, hz, e⟩ := List.mem_map.1 this;exact ⟨z, hz, e⟩
  refine (h ev c env V W O R he hst ht hk (fun y hy => by obtain ⟨z, hz, e⟩ := hmem y hy; rw [← e]; exact hn z hz)).mono ?_
  rintro u W' ⟨env', O', R', he', hu, hst'⟩
  have hlt := (List.getElem?_eq_some_iff.1 hj).1;have hf := hst'.freeze j (x := x) (by rw [List.getElem?_append_left hlt]; exact hj);rw [List.set_append_left _ _ hlt] at hf;refine ⟨env', _, _, fun n hn2 => he' n fun y hy hyt e => ?_, hu, hf⟩;obtain ⟨z, hz, e2⟩ := hmem y hy;exact hn2 z hz (by rw [e2]; exact hyt) (by rw [e2]; exact e)
end
end Go.Proofs.Ytjmkjlhnipnkcaa.Sy
end
section
set_option linter.unusedSimpArgs false
set_option linter.unusedVariables false
namespace Go.Proofs.Ytjmkjlhnipnkcaa.Sy
open Go.RowKit Instr
section
variable {P : Program} {o : Oper} {ρ : Operand → Option AV}
end
section
variable {P : Program} {c : Ctx} {sz : Fm} {Q : Exit → Act → World → Prop} {t : List Item} {s : List (Nat × AV)} {V : List NEnt}
end
end Go.Proofs.Ytjmkjlhnipnkcaa.Sy
end
section
set_option linter.unusedSimpArgs false
set_option linter.unusedVariables false
namespace Go.Proofs.Ytjmkjlhnipnkcaa.Sy
open Go.RowKit
theorem outer_read {E : Nat} {us : List Value} {W : World} {O R : Nat → Prop} {v : Value} (h : (NEnt.row 0 E 1 (us.map fun u => [D.v u])).holds (fun _ => v) W O R) :
    ∃ a cap, v = .slice a us.length cap ∧ (a = none → cap = 0) ∧ us.length ≤ cap ∧ cap ≤ maxLen ∧ ∀ (j : Nat) (u : Value), us[j]? = some u → ∃ b o, a = some ⟨b, o, none⟩ ∧ (R b ∨ O b) ∧ W.cell? ⟨b, o + j, none⟩ = some u ∧ u.oneCell' = true := by
  obtain ⟨a, cap, h1, h2, h3, h4, h5⟩ := row_read isOwn h;rw [List.length_map] at h1 h2;refine ⟨a, cap, h1, h4, h2, h3, fun j u hu => ?_⟩;obtain ⟨b, o, ha, hb, u', hc, hok, hone⟩ := (h5 j [D.v u] (by rw [List.getElem?_map, hu]; rfl)).2 0 (D.v u) rfl;have e : u' = u := hok;subst e;exact ⟨b, o, ha, hb, by simpa using hc, hone⟩
section
variable {P : Program} {c : Ctx} {sz : Fm} {Q : Exit → Act → World → Prop} {t : List Item} {s : List (Nat × AV)} {V : List NEnt} {ops : Array Oper} {rest : List Oper}
end
section
variable {P : Program} {s : List (Nat × AV)} {o : Oper} {ρ : Operand → Option AV}
end
end Go.Proofs.Ytjmkjlhnipnkcaa.Sy
end
section
set_option linter.unusedSimpArgs false
set_option linter.unusedVariables false
namespace Go.Proofs.Ytjmkjlhnipnkcaa.Sy
open Go.RowKit
theorem oneOf_of_one {v : Value} (h : v.oneCell' = true) : oneOf v = v := by cases v <;> first | rfl | cases h
section
variable {P : Program} {c : Ctx} {sz : Fm} {Q : Exit → Act → World → Prop} {t : List Item} {s : List (Nat × AV)} {V : List NEnt} {ops : Array Oper} {rest : List Oper}
end
theorem set_same {α : Type} {xs : List α} {j : Nat} {l : α} (h : xs[j]? = some l) : xs.set j l = xs := by
  obtain ⟨hj, rfl⟩ := List.getElem?_eq_some_iff.1 h;exact List.set_getElem_self hj
section
variable {P : Program} {s : List (Nat × AV)} {o : Oper} {ρ : Operand → Option AV}
end
end Go.Proofs.Ytjmkjlhnipnkcaa.Sy
end
section
set_option linter.unusedSimpArgs false
set_option linter.unusedVariables false
namespace Go.Proofs.Ytjmkjlhnipnkcaa.Sy
open Go.RowKit
section
variable {X : Type} {P : Program} {c : Ctx} {sz : Fm} {Q : Exit → Act → World → Prop} {t : List Item} {s : List (Nat × AV)} {V : List NEnt} {ops : Array Oper} {rest : List Oper} {T' n : Nat} {enc : X → List Value} {xs : List X}
end
section
variable {P : Program} {o : Oper} {ρ : Operand → Option AV}
end
end Go.Proofs.Ytjmkjlhnipnkcaa.Sy
end
section
set_option linter.unusedSimpArgs false
set_option linter.unusedVariables false
namespace Go.Proofs.Ytjmkjlhnipnkcaa.Sy
open Go.RowKit
section
variable {P : Program} {c : Ctx} {sz : Fm} {Q : Exit → Act → World → Prop} {t : List Item} {s : List (Nat × AV)} {V : List NEnt} {ops : Array Oper} {rest : List Oper} {o : Oper} {ρ : Operand → Option AV}
end
end Go.Proofs.Ytjmkjlhnipnkcaa.Sy
end
section
set_option linter.unusedSimpArgs false
set_option linter.unusedVariables false
namespace Go.Proofs.Ytjmkjlhnipnkcaa.Sy
open Go.RowKit Go.Shelf
end Go.Proofs.Ytjmkjlhnipnkcaa.Sy
end
