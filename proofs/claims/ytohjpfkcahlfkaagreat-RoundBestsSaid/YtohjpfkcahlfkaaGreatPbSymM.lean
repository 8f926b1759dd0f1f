/- The small logic of symbolic states: functions that turn what is handed to them; pins; marks; leaving with marks. -/
import Derived.Test.YtohjpfkcahlfkaaGreatPbSymL
import Derived.RangeFuncIn
import Derived.RangeFuncLeaves
import Derived.RangeFuncNested
set_option linter.unusedSimpArgs false
set_option linter.unusedVariables false
namespace Go.Proofs.YtohjpfkcahlfkaaGreat.Sy
open Go.RowKit
theorem ro_holds {x : NEnt} (hx : x.isRoB = true) {e : Env} {W : World} {O R : Nat → Prop} (h : x.holds e W O R) (O' : Nat → Prop) : x.holds e W O' R := by
  cases x with
  | row n E size els => cases hx
  | blk n cells T => cases hx
  | inv n I => cases hx
  | ro n size els => exact h
  | rob n cells T => exact h
  | any n d => exact h
  | pin g n u => exact h
theorem St.over {c : Ctx} {env env' : Env} {V take news : List NEnt} {W W' : World} {O O' : Nat → Nat → Prop} {R R' M1 : Nat → Prop} (h : St c env V W O R) (ht : ∀ x ∈ take, x ∈ V) (hM : ∀ b, M1 b → ∃ x ∈ take, O x.name b)
    (hg : St ⟨W, M1, R⟩ env' news W' O' R') (he : ∀ n, (∀ y ∈ news, y.name ∉ take.map NEnt.name → y.name ≠ n) → env' n = env n) (hf : ∀ y ∈ news, y.name ∈ take.map NEnt.name ∨ hasV y.name V = false) :
    ∃ O2, St c env' (news ++ delV (take.map NEnt.name) V) W' O2 R' := by
  have hnv : ∀ x ∈ news, ∀ z ∈ delV (take.map NEnt.name) V, x.name ≠ z.name := by
    intro x hx z hz e
    obtain ⟨hz, hzt⟩ := mem_delV.1 hz
    rcases hf x hx with h1 | h1
    · exact hzt (e ▸ h1)
    · rw [mem_has hz (by rw [e]; exact NEnt.has_name z)] at h1; cases h1
  have hev : ∀ n, hasV n V = true → env' n = env n := fun n hn => he n fun y hy hyt e => by
    rcases hf y hy with h1 | h1
    · exact hyt h1
    · subst e; rw [h1] at hn; cases hn
  have hnm : ∀ z ∈ delV (take.map NEnt.name) V, ∀ b, O z.name b → ¬ M1 b := by
    intro z hz b hb hm
    obtain ⟨hz, hzt⟩ := mem_delV.1 hz
    obtain ⟨x, hx, hxb⟩ := hM b hm
    exact h.apart z hz x (ht x hx) (fun e => hzt (List.mem_map.2 ⟨x, hx, e.symm⟩)) b ⟨hb, hxb⟩
  have hrm : ∀ b, R b → ¬ M1 b := by
    intro b hb hm
    obtain ⟨x, hx, hxb⟩ := hM b hm
    exact (h.own x (ht x hx) b hxb).2.2 hb
  have hmo : ∀ b, M1 b → b < W.heap.size ∧ (c.w0.heap.size ≤ b ∨ c.M b) := by
    intro b hm
    obtain ⟨x, hx, hxb⟩ := hM b hm
    exact ⟨(h.own x (ht x hx) b hxb).1, (h.own x (ht x hx) b hxb).2.1⟩
  classical
  refine ⟨fun n b => if (∃ x ∈ news, x.name = n) then O' n b else O n b, ⟨h.keep.trans hg.keep (fun i hi hm => ?_), ?_, ?_, ?_, ?_, ?_, ?_⟩⟩
  · rcases (hmo i hm).2 with h1 | h1
    · omega
    · exact h1
  · intro x hx
    rcases List.mem_append.1 hx with hx | hx
    · have : ∃ y ∈ news, y.name = x.name := ⟨x, hx, rfl⟩
      simpa only [this, if_true] using hg.holds x hx
    · have hno : ¬ ∃ y ∈ news, y.name = x.name := fun ⟨y, hy, e⟩ => hnv y hy x hx e
      have hxV := (mem_delV.1 hx).1
      simp only [hno, if_false]
      refine NEnt.holds_congr (fun n hn => (hev n (mem_has hxV hn)).symm) (NEnt.holds_keep (fun b hb => ?_) (fun b hb => ?_) (h.holds x hxV))
      · exact hg.keep.block b (h.own x hxV b hb).1 (hnm x hx b hb)
      · exact ⟨hg.r0 b hb, hg.keep.block b (h.ro b hb).1 (hrm b hb)⟩
  · intro x hx b hb
    rcases List.mem_append.1 hx with hx | hx
    · have : ∃ y ∈ news, y.name = x.name := ⟨x, hx, rfl⟩
      simp only [this, if_true] at hb
      obtain ⟨h1, h2, h3⟩ := hg.own x hx b hb
      refine ⟨h1, ?_, h3⟩
      rcases h2 with h2 | h2
      · exact .inl (Nat.le_trans h.keep.size h2)
      · exact (hmo b h2).2
    · have hno : ¬ ∃ y ∈ news, y.name = x.name := fun ⟨y, hy, e⟩ => hnv y hy x hx e
      have hxV := (mem_delV.1 hx).1
      simp only [hno, if_false] at hb
      obtain ⟨h1, h2, h3⟩ := h.own x hxV b hb
      refine ⟨Nat.lt_of_lt_of_le h1 hg.keep.size, h2, fun hr => ?_⟩
      rcases (hg.ro b hr).2 with h4 | h4 | h4
      · have : W.heap.size ≤ b := h4; omega
      · exact h3 h4
      · exact hnm x hx b hb h4
  · intro x hx y hy hne b ⟨h1, h2⟩
    by_cases ex : ∃ z ∈ news, z.name = x.name <;> by_cases ey : ∃ z ∈ news, z.name = y.name <;> simp only [ex, ey, if_true, if_false] at h1 h2
    · obtain ⟨x', hx', e1⟩ := ex; obtain ⟨y', hy', e2⟩ := ey
      rw [← e1] at h1; rw [← e2] at h2
      exact hg.apart x' hx' y' hy' (by rw [e1, e2]; exact hne) b ⟨h1, h2⟩
    · obtain ⟨x', hx', e1⟩ := ex
      have hyD : y ∈ delV (take.map NEnt.name) V := (List.mem_append.1 hy).resolve_left fun h => ey ⟨y, h, rfl⟩
      have hyV := (mem_delV.1 hyD).1
      rw [← e1] at h1
      have := (hg.own x' hx' b h1).2.1
      have h3 := (h.own y hyV b h2).1
      rcases this with h4 | h4
      · have : W.heap.size ≤ b := h4; omega
      · exact hnm y hyD b h2 h4
    · obtain ⟨y', hy', e2⟩ := ey
      have hxD : x ∈ delV (take.map NEnt.name) V := (List.mem_append.1 hx).resolve_left fun h => ex ⟨x, h, rfl⟩
      have hxV := (mem_delV.1 hxD).1
      rw [← e2] at h2
      have := (hg.own y' hy' b h2).2.1
      have h3 := (h.own x hxV b h1).1
      rcases this with h4 | h4
      · have : W.heap.size ≤ b := h4; omega
      · exact hnm x hxD b h1 h4
    · have hxV : x ∈ V := (mem_delV.1 ((List.mem_append.1 hx).resolve_left fun h => ex ⟨x, h, rfl⟩)).1
      have hyV : y ∈ V := (mem_delV.1 ((List.mem_append.1 hy).resolve_left fun h => ey ⟨y, h, rfl⟩)).1
      exact h.apart x hxV y hyV hne b ⟨h1, h2⟩
  · intro b hb
    obtain ⟨h1, h2⟩ := hg.ro b hb
    refine ⟨h1, ?_⟩
    rcases h2 with h2 | h2 | h2
    · exact .inl (Nat.le_trans h.keep.size h2)
    · exact (h.ro b h2).2
    · exact (hmo b h2).2.elim .inl fun h => .inr (.inr h)
  · intro b hb
    exact hg.r0 b (h.r0 b hb)
  · rw [List.map_append, List.nodup_append]
    refine ⟨hg.names, h.names.sublist ((delV_sub _ _).map NEnt.name), fun a ha b hb e => ?_⟩
    obtain ⟨x, hx, rfl⟩ := List.mem_map.1 ha
    obtain ⟨y, hy, rfl⟩ := List.mem_map.1 hb
    exact hnv x hx y hy e
def PostT (c : Ctx) (env : Env) (tn : List Nat) (v : AV) (news : List NEnt) (e : Ending) (W' : World) : Prop :=
  ∃ u, e = .returned u ∧ ∃ env' O' R', (∀ n, (∀ y ∈ news, y.name ∉ tn → y.name ≠ n) → env' n = env n) ∧ u = v.den env' ∧ St c env' news W' O' R'
def FT (P : Program) (f : Nat) (args : List AV) (take need : List NEnt) (v : AV) (news : List NEnt) : Prop :=
  ∀ (env : Env) (w0 : World) (M : Nat → Prop) (O : Nat → Nat → Prop) (R0 : Nat → Prop), St ⟨w0, M, R0⟩ env take w0 O R0 → (∀ x ∈ need, x.isRoB = true ∧ x.holds env w0 (fun _ => False) R0) →
    Calls P f (AV.denL env args).toArray w0 (PostT ⟨w0, M, R0⟩ env (take.map NEnt.name) v news)
theorem FT.apply {P : Program} {f : Nat} {args : List AV} {take need news : List NEnt} {v : AV} (h : FT P f args take need v news) {c : Ctx} {env : Env} {V : List NEnt} {W : World} {O : Nat → Nat → Prop} {R : Nat → Prop} (hst : St c env V W O R)
    (ht : ∀ x ∈ take, x ∈ V) (hk : ∀ x ∈ need, x ∈ V) (hro : need.all NEnt.isRoB = true) (hnd : nodupB (take.map NEnt.name) = true) (hf : ∀ y ∈ news, y.name ∈ take.map NEnt.name ∨ hasV y.name V = false) :
    Calls P f (AV.denL env args).toArray W fun e W' => ∃ u, e = .returned u ∧ ∃ env' O2 R', (∀ n, (∀ y ∈ news, y.name ∉ take.map NEnt.name → y.name ≠ n) → env' n = env n) ∧ u = v.den env' ∧ St c env' (news ++ delV (take.map NEnt.name) V) W' O2 R' := by
  have hroA : ∀ x ∈ need, x.isRoB = true := fun x hx => List.all_eq_true.1 hro x hx
  have hst1 : St ⟨W, fun b => ∃ x ∈ take, O x.name b, R⟩ env take W O R := by
    refine ⟨Keep.refl _ _, fun x hx => hst.holds x (ht x hx), fun x hx b hb => ?_, fun x hx y hy hne b hb => hst.apart x (ht x hx) y (ht y hy) hne b hb, fun b hb => ⟨(hst.ro b hb).1, .inr (.inl hb)⟩, fun _ h => h, nodup_of_B hnd⟩
    obtain ⟨h1, h2, h3⟩ := hst.own x (ht x hx) b hb
    exact ⟨h1, .inr ⟨x, hx, hb⟩, h3⟩
  refine (h env W _ _ R hst1 fun x hx => ⟨hroA x hx, ro_holds (hroA x hx) (hst.holds x (hk x hx)) _⟩).mono ?_
  rintro e W' ⟨u, he, env', O', R', h1, h2, h3⟩
  obtain ⟨O2, h4⟩ := hst.over ht (fun b hb => hb) h3 h1 hf
  exact ⟨u, he, env', O2, R', h1, h2, h4⟩
theorem FT.needJ {P : Program} {f : Nat} {args : List AV} {take need need' news : List NEnt} {v : AV} (is : List Nat) (hn : At need is need') (h : FT P f args take need' v news) : FT P f args take need v news :=
  fun env w0 M O R0 hst hnd => h env w0 M O R0 hst fun x hx => hnd x (hn.mem x hx)
theorem FT.at {P : Program} {f : Nat} {args : List AV} {take need news : List NEnt} {v : AV} (p q : Nat → Nat) (h : FT P f args take need v news) (hq : (news.map fun x => q x.name).Nodup) (hcl : closedN v news = true)
    (hpq : ((news.map NEnt.name).all fun n => if (take.map NEnt.name).contains n then q n == p n else !((take.map fun x => p x.name).contains (q n))) = true) :
    FT P f (AV.renL p args) (take.map (NEnt.ren p)) (need.map (NEnt.ren p)) (v.ren q) (news.map (NEnt.ren q)) := by
  classical
  intro env w0 M O R0 hst hnd
  rw [AV.denL_ren]
  have htn : (take.map (NEnt.ren p)).map NEnt.name = take.map fun x => p x.name := by
    rw [List.map_map]; congr 1; funext x; exact NEnt.name_ren p x
  have hst' : St ⟨w0, M, R0⟩ (fun n => env (p n)) take w0 (fun n => O (p n)) R0 := hst.sub p (fun x hx => List.mem_map.2 ⟨x, hx, rfl⟩) (by rw [← htn]; exact hst.names)
  refine (h (fun n => env (p n)) w0 M _ R0 hst' (fun x hx => ?_)).mono ?_
  · have := hnd (x.ren p) (List.mem_map.2 ⟨x, hx, rfl⟩)
    rw [NEnt.holds_ren] at this
    exact ⟨by have := this.1; cases x <;> first | rfl | exact this, this.2⟩
  rintro e W' ⟨u, he, env', O', R', h1, h2, hst2⟩
  have hcl' : ∀ n, (n ∈ v.ns ∨ ∃ x ∈ news, n ∈ x.ns) → ∃ x ∈ news, x.name = n := by
    intro n hn
    have := List.all_eq_true.1 hcl n (by rw [List.mem_append, List.mem_flatMap]; exact hn)
    simpa [List.mem_map] using this
  have hinj := nodup_map_name hq
  let inv : Nat → Nat := fun k => if h : ∃ x ∈ news, q x.name = k then (Classical.choose h).name else k
  have hinv : ∀ x ∈ news, inv (q x.name) = x.name := by
    intro x hx
    have hex : ∃ y ∈ news, q y.name = q x.name := ⟨x, hx, rfl⟩
    simp only [inv, hex, dif_pos]
    obtain ⟨g1, g2⟩ := Classical.choose_spec hex
    cases Classical.em ((Classical.choose hex).name = x.name) with
    | inl e => exact e
    | inr e => exact absurd g2 (hinj _ g1 x hx e)
  let env2 : Env := fun k => if ∃ x ∈ news, q x.name = k then env' (inv k) else env k
  have henv2 : ∀ n, (n ∈ v.ns ∨ ∃ x ∈ news, n ∈ x.ns) → env2 (q n) = env' n := by
    intro n hn
    obtain ⟨x, hx, rfl⟩ := hcl' n hn
    have hex : ∃ y ∈ news, q y.name = q x.name := ⟨x, hx, rfl⟩
    simp only [env2, hex, if_true, hinv x hx]
  have hpq' : ∀ x ∈ news, (x.name ∈ take.map NEnt.name → q x.name = p x.name) ∧ (x.name ∉ take.map NEnt.name → q x.name ∉ take.map fun x => p x.name) := by
    intro x hx
    have := List.all_eq_true.1 hpq x.name (List.mem_map.2 ⟨x, hx, rfl⟩)
    by_cases ht : x.name ∈ take.map NEnt.name
    · simp only [List.contains_eq_mem, ht, decide_true, if_true, beq_iff_eq] at this
      exact ⟨fun _ => this, fun h => absurd ht h⟩
    · simp only [List.contains_eq_mem, ht, decide_false, Bool.false_eq_true, if_false, Bool.not_eq_true', decide_eq_false_iff_not] at this
      exact ⟨fun h => absurd h ht, fun _ => this⟩
  refine ⟨u, he, env2, fun k => O' (inv k), R', fun n hn => ?_, ?_, hst2.keep, fun y hy => ?_, fun y hy b hb => ?_, fun y hy z hz hne b hb => ?_, hst2.ro, hst2.r0, ?_⟩
  · by_cases hx : ∃ x ∈ news, q x.name = n
    · obtain ⟨x, hx, e⟩ := hx
      have e1 : env2 n = env' x.name := by rw [← e]; exact henv2 _ (.inr ⟨x, hx, NEnt.has_ns (NEnt.has_name x)⟩)
      by_cases ht : x.name ∈ take.map NEnt.name
      · have e2 := (hpq' x hx).1 ht
        rw [e1, h1 x.name fun y hy hyt e3 => hyt (e3 ▸ ht)]
        show env (p x.name) = env n
        rw [← e2, e]
      · exact absurd e (by
          have := hn (x.ren q) (List.mem_map.2 ⟨x, hx, rfl⟩) (by rw [NEnt.name_ren, htn]; exact (hpq' x hx).2 ht)
          rw [NEnt.name_ren] at this; exact this)
    · simp only [env2, hx, if_false]
  · rw [h2, AV.den_ren]
    exact AV.den_congr v fun n hn => (henv2 n (.inl (AV.has_ns v hn))).symm
  · obtain ⟨x, hx, rfl⟩ := List.mem_map.1 hy
    rw [NEnt.holds_ren, NEnt.name_ren, hinv x hx]
    exact NEnt.holds_congr (fun n hn => (henv2 n (.inr ⟨x, hx, NEnt.has_ns hn⟩)).symm) (hst2.holds x hx)
  · obtain ⟨x, hx, rfl⟩ := List.mem_map.1 hy
    rw [NEnt.name_ren, hinv x hx] at hb
    exact hst2.own x hx b hb
  · obtain ⟨x, hx, rfl⟩ := List.mem_map.1 hy
    obtain ⟨x2, hx2, rfl⟩ := List.mem_map.1 hz
    rw [NEnt.name_ren, hinv x hx, NEnt.name_ren, hinv x2 hx2] at hb
    rw [NEnt.name_ren, NEnt.name_ren] at hne
    exact hst2.apart x hx x2 hx2 (fun e => hne (by rw [e])) b hb
  · rw [List.map_map]
    have : (NEnt.name ∘ NEnt.ren q) = fun x => q x.name := by funext x; exact NEnt.name_ren q x
    rw [this]; exact hq
theorem atT {P : Program} {f : Nat} {args : List AV} {take need news : List NEnt} {v : AV} (p q : List (Nat × Nat)) (h : FT P f args take need v news) (hq : nodupB (news.map fun x => rnA q x.name) = true) (hcl : closedN v news = true)
    (hpq : ((news.map NEnt.name).all fun n => if (take.map NEnt.name).contains n then rnA q n == rnA p n else !((take.map fun x => rnA p x.name).contains (rnA q n))) = true) :
    FT P f (AV.renL (rnA p) args) (take.map (NEnt.ren (rnA p))) (need.map (NEnt.ren (rnA p))) (v.ren (rnA q)) (news.map (NEnt.ren (rnA q))) := FT.at (rnA p) (rnA q) h (nodup_of_B hq) hcl hpq
theorem FT.nil {P : Program} {f : Nat} {args : List AV} {take need news : List NEnt} {v : AV} (k size : Nat) (h : FT P f args take (.ro k size [] :: need) v news) (ht : hasV k take = false) (hk : hasV k need = false) (hv : v.has k = false) (hn : hasV k news = false) :
    FT P f (AV.nlL k args) take need v news := by
  intro env w0 M O R0 hst hnd
  rw [AV.denL_nl]
  have hst' : St ⟨w0, M, R0⟩ (setEnv env k (.slice none 0 0)) take w0 O R0 := ⟨hst.keep, fun x hx => NEnt.holds_congr (fun n hn' => (setEnv_other fun e => by subst e; rw [hasV_mem ht hx] at hn'; cases hn').symm) (hst.holds x hx), hst.own, hst.apart, hst.ro, hst.r0, hst.names⟩
  refine (h (setEnv env k (.slice none 0 0)) w0 M O R0 hst' (fun x hx => ?_)).mono ?_
  · rcases List.mem_cons.1 hx with rfl | hx
    · simp only [NEnt.holds, setEnv_same]
      exact ⟨rfl, none, 0, rfl, Nat.le_refl _, Nat.zero_le _, fun _ => rfl, by simp⟩
    · exact ⟨(hnd x hx).1, NEnt.holds_congr (fun n hn' => (setEnv_other fun e => by subst e; rw [hasV_mem hk hx] at hn'; cases hn').symm) (hnd x hx).2⟩
  rintro e W' ⟨u, he, env', O', R', h1, h2, hst2⟩
  have hc : ∀ n, n ≠ k → setEnv env' k (env k) n = env' n := fun n hne => setEnv_other (Ne.symm hne)
  refine ⟨u, he, setEnv env' k (env k), O', R', fun n hn' => ?_, ?_, hst2.keep, fun x hx => ?_, hst2.own, hst2.apart, hst2.ro, hst2.r0, hst2.names⟩
  · by_cases e : n = k
    · subst e; rw [setEnv_same]
    · rw [hc n e, h1 n hn', setEnv_other (Ne.symm e)]
  · rw [h2]
    exact AV.den_congr v fun n hn' => (hc n fun e => by subst e; rw [hv] at hn'; cases hn').symm
  · exact NEnt.holds_congr (fun n hn' => (hc n fun e => by subst e; rw [hasV_mem hn hx] at hn'; cases hn').symm) (hst2.holds x hx)
section
variable {P : Program} {s : List (Nat × AV)} {o : Oper}
theorem ts_call {fo : Operand} {as_ : List Operand} {avs fi ca : List AV} {ats : Array TypeId} {f : Nat} {take need news : List NEnt} {v : AV} (ho : o.op = .call { callee := .value fo, args := as_.toArray, argTypes := ats }) (hf : rho s fo = some (.fn f fi ca)) (has : as_.map (rho s) = avs.map some)
    (hc : ∀ args w, (callFunc f args).run P w = .ok (.enter f args) w) (hft : FT P f (fi ++ avs ++ ca) take need v news) (hro : need.all NEnt.isRoB = true) (hnd : nodupB (take.map NEnt.name) = true) : TSpec P o (rho s) take need v news := by
  intro ev c env V W O R hev hst ht hk hnn
  have hfo := hev fo _ hf
  simp only [AV.den] at hfo
  have hargs := args_map hev as_ avs has
  have hrun : (execOp ev o).run P W = .ok (.enter f (AV.denL env (fi ++ avs ++ ca)).toArray) W := by
    simp only [execOp, ho, resolve, hfo, Deferred.ofValue, Sem.run_bind, Sem.run_pure, Result.andThen_ok, invoke, hc, List.map_toArray, hargs, denL_append, List.append_toArray]
  rw [hrun]
  refine (hft.apply hst ht hk hro hnd hnn).mono ?_
  rintro e W' ⟨u, he, env', O2, R', h1, h2, h3⟩
  exact ⟨u, he, env', O2, R', h1, h2, h3⟩
end
def freshT (tn : List Nat) (news : List NEnt) (s : List (Nat × AV)) (V : List NEnt) : Bool := news.all fun x => tn.contains x.name || (!hasS x.name s && !hasV x.name V)
section
variable {P : Program} {c : Ctx} {sz : Fm} {Q : Exit → Act → World → Prop} {t : List Item} {s : List (Nat × AV)} {V V' : List NEnt} {ops : Array Oper} {rest : List Oper} {o : Oper}
theorem opT {take need : List NEnt} {v : AV} {news : List NEnt} (is js : List Nat) (hs : TSpec P o (rho s) take need v news) (hw : Wanted ops s o) (hlt : (match o.dst with | some d => Nat.blt d sz.sz | none => true) = true) (ht : At V is take) (hn : At V js need)
    (hf : freshT (take.map NEnt.name) news s V = true) (hV : news ++ delV (take.map NEnt.name) V = V') (k : TL P c sz Q ops rest t (putS o v s) V') : TL P c sz Q ops (o :: rest) t s V := by
  subst hV
  intro env tm W O R hfr hst
  have hf' : ∀ x ∈ news, x.name ∈ take.map NEnt.name ∨ (hasS x.name s = false ∧ hasV x.name V = false) := by
    intro x hx
    have := List.all_eq_true.1 hf x hx
    simpa using this
  unfold wpListIn
  rw [if_pos (wanted_of hfr hw)]
  refine ((hs _ c env V W O R (fun x a hx => rho_eval hfr hx) hst ht.mem hn.mem (fun y hy => (hf' y hy).imp id And.right)).inn ?_)
  rintro u W' ⟨env', O', R', he, rfl, hg⟩
  have hfr' : Fr env' sz.sz s tm := hfr.congr fun n hn => (he n fun y hy hyt e => by
    rcases hf' y hy with h | h
    · exact hyt h
    · subst e; rw [h.1] at hn; cases hn).symm
  unfold putS at k
  cases hd : o.dst with
  | none =>
    rw [hd] at k
    exact k env' tm W' O' R' hfr' hg
  | some d =>
    rw [hd] at k hlt
    exact k env' _ W' O' R' (hfr'.put (by simpa [Nat.blt_eq] using hlt)) hg
theorem TC.pin (g n : Nat) (hf : (!hasS g s && !hasV g V) = true) (hg : Nat.beq g n = false) (h : ∀ u, TC P c sz Q t s (.pin g n u :: V)) : TC P c sz Q t s V := by
  simp only [Bool.and_eq_true, Bool.not_eq_true'] at hf
  intro env tm W O R hfr hst
  have hgn : g ≠ n := fun e => by subst e; rw [Nat.beq_refl] at hg; cases hg
  have hst' := hst.addRo (x := .pin g n (env n)) (v := .bool false) hf.2 fun O => by
    simp only [NEnt.holds, NEnt.name, setEnv_other hgn]
  exact h (env n) _ tm W _ R (hfr.congr fun m hm => (setEnv_other fun e => by subst e; simp only [NEnt.name] at hm; rw [hf.1] at hm; cases hm).symm) hst'
def MarksOk (W : World) (O : Nat → Prop) : List Deferred → Prop
  | [] => True
  | d :: ds => (∃ D, d = { target := .collected D, args := #[] } ∧ O D ∧ W.heap[D]? = some (.deferred (some [])) ∧ ∀ d' ∈ ds, d' ≠ d) ∧ MarksOk W O ds
theorem MarksOk.keep {W W' : World} {O O' : Nat → Prop} : ∀ {ds : List Deferred}, MarksOk W O ds → (∀ b, O b → O' b ∧ ((∃ d ∈ ds, d.target = .collected b) → W'.heap[b]? = W.heap[b]?)) → MarksOk W' O' ds := by
  intro ds
  induction ds with
  | nil => intro _ _; trivial
  | cons d ds ih =>
    rintro ⟨⟨D, rfl, h2, h3, h4⟩, h5⟩ hO
    exact ⟨⟨D, rfl, (hO D h2).1, ((hO D h2).2 ⟨{ target := .collected D, args := #[] }, by simp, rfl⟩).trans h3, h4⟩, ih h5 fun b hb => ⟨(hO b hb).1, fun ⟨d, hd, e⟩ => (hO b hb).2 ⟨d, by simp [hd], e⟩⟩⟩
def marksI (ds : List Deferred) : Inv := ⟨fun W O _ _ => MarksOk W O ds, fun W W' O R R' hO _ v h => MarksOk.keep h fun b hb => ⟨hb, fun _ => hO b hb⟩⟩
theorem leaves_marks {fn : Func} {tmps : Array Value} {R : Ending → World → Prop} {O : Nat → Prop} : ∀ (ds : List Deferred) (w : World), MarksOk w O ds → (∀ w', Keep O w w' → ∃ v, (results fn tmps).run P w' = .ok v w' ∧ R (.returned v) w') →
    LeavesInM Fence.wide 0 P fn tmps R ds .returning w := by
  intro ds
  induction ds with
  | nil => intro w _ h; exact h w (Keep.refl _ _)
  | cons d ds ih =>
    rintro w ⟨⟨D, rfl, h2, h3, h4⟩, h5⟩ h
    have hk : Keep O w (w.putObj D (.deferred none)) := ⟨rfl, rfl, rfl, by simp, fun k hk hn => World.putObj_heap_other (fun e => hn (by rw [e]; exact h2))⟩
    refine ⟨by simp, .inl ⟨D, _, rfl, run_takeDeferred h3, ih _ ?_ fun w' hk' => h w' (hk.trans hk' fun _ _ h => h)⟩⟩
    refine MarksOk.keep h5 fun b hb => ⟨hb, fun ⟨d, hd, e⟩ => World.putObj_heap_other fun e2 => ?_⟩
    subst e2
    have key : ∀ ds : List Deferred, MarksOk w O ds → ∀ d ∈ ds, d.target = .collected b → d = { target := .collected b, args := #[] } := by
      intro ds
      induction ds with
      | nil => intro _ d hd; cases hd
      | cons x l ihl =>
        rintro ⟨⟨D', rfl, _⟩, hl⟩ d hd e
        rcases List.mem_cons.1 hd with rfl | hd
        · simp only [Target.collected.injEq] at e; rw [e]
        · exact ihl hl d hd e
    exact h4 d hd (key ds h5 d hd e)
def trivI : Inv := ⟨fun _ _ _ _ => True, fun _ _ _ _ _ _ _ _ _ => trivial⟩
def PinsOk (p : Nat → Nat) (env0 : Env) (V : List NEnt) : List Nat → Prop
  | [] => True
  | n :: l => (∃ g, NEnt.pin g (p n) (env0 n) ∈ V) ∧ PinsOk p env0 V l
theorem PinsOk.at {p : Nat → Nat} {env0 : Env} {V : List NEnt} : ∀ {l : List Nat}, PinsOk p env0 V l → ∀ n ∈ l, ∃ g, NEnt.pin g (p n) (env0 n) ∈ V := by
  intro l
  induction l with
  | nil => intro _ n hn; cases hn
  | cons m l ih =>
    rintro ⟨h1, h2⟩ n hn
    rcases List.mem_cons.1 hn with rfl | hn
    · exact h1
    · exact ih h2 n hn
theorem PostT.mk {env0 env : Env} {W : World} {O : Nat → Nat → Prop} {R : Nat → Prop} {tn ns : List Nat} (hst : St c env V W O R) (p : Nat → Nat) {v rv : AV} {news : List NEnt} (hv : v.ren p = rv) (hV : SubV p V news) (hn : (news.map fun x => p x.name).Nodup) (hcl : closedN v news = true)
    (hp : PinsOk p env0 V ns) (hns : ((news.map NEnt.name).all fun n => !tn.contains n || ns.contains n) = true) : PostT c env0 tn v news (.returned (rv.den env)) W := by
  classical
  have hcl' : ∀ n, (n ∈ v.ns ∨ ∃ x ∈ news, n ∈ x.ns) → ∃ x ∈ news, x.name = n := by
    intro n hn
    have := List.all_eq_true.1 hcl n (by rw [List.mem_append, List.mem_flatMap]; exact hn)
    simpa [List.mem_map] using this
  refine ⟨_, rfl, fun n => if ∃ x ∈ news, x.name = n then env (p n) else env0 n, fun n => O (p n), R, fun n hn => ?_, ?_, ?_⟩
  · by_cases hx : ∃ x ∈ news, x.name = n
    · simp only [hx, if_true]
      obtain ⟨x, hx, e⟩ := hx
      by_cases ht : x.name ∈ tn
      · have h1 := List.all_eq_true.1 hns x.name (List.mem_map.2 ⟨x, hx, rfl⟩)
        simp only [Bool.or_eq_true, Bool.not_eq_true', List.contains_eq_mem, decide_eq_true_eq, decide_eq_false_iff_not, ht, not_true, false_or] at h1
        obtain ⟨g, hg⟩ := hp.at _ h1
        have := hst.holds _ hg
        simp only [NEnt.holds] at this
        rw [← e]; exact this
      · exact absurd e (hn x hx ht)
    · exact if_neg hx
  · subst hv
    rw [AV.den_ren]
    exact AV.den_congr v fun n hn => by rw [if_pos (hcl' n (.inl (AV.has_ns v hn)))]
  · have h2 := hst.sub p hV.mem hn
    exact ⟨h2.keep, fun x hx => NEnt.holds_congr (fun n hn => by rw [if_pos (hcl' n (.inr ⟨x, hx, NEnt.has_ns hn⟩))]) (h2.holds x hx), h2.own, h2.apart, h2.ro, h2.r0, h2.names⟩
end
section
variable {P : Program} {c : Ctx} {nz : Nat} {df : List Deferred} {fn : Func} {t : List Item} {s : List (Nat × AV)} {V : List NEnt}
theorem leave_core {env0 : Env} {tn : List Nat} (p : List (Nat × Nat)) (k gm : Nat) (ns : List Nat) {v : AV} {news : List NEnt} {m : List AV} (hk : V[k]? = some (.inv gm (marksI df))) (hr : ResL P s (V.eraseIdx k) fn.results.toList m) (hv : v.ren (rnA p) = resAV m) (hV : SubV (rnA p) (V.eraseIdx k) news)
    (hn : nodupB (news.map fun x => rnA p x.name) = true) (hcl : closedN v news = true) (hp : PinsOk (rnA p) env0 (V.eraseIdx k) ns) (hns : ((news.map NEnt.name).all fun n => !tn.contains n || ns.contains n) = true)
    {env : Env} {tm : Array Value} {W : World} {O : Nat → Nat → Prop} {R : Nat → Prop} (hf : Fr env nz s tm) (hst : St c env V W O R) : LeavesInM Fence.wide 0 P fn tm (PostT c env0 tn v news) df .returning W := by
  have hm : NEnt.inv gm (marksI df) ∈ V := List.mem_of_getElem? hk
  refine leaves_marks df W (hst.holds _ hm) fun w' hkp => ?_
  have hst2 := hst.write k (y := .inv gm trivI) hk hkp rfl trivial
  have hst3 : St c env (V.eraseIdx k) w' O R := hst2.sub (V' := V.eraseIdx k) id (fun x hx => by
    rw [NEnt.ren_id]
    obtain ⟨h1, h2⟩ := mem_erase_cases hst.names hk hx
    obtain ⟨i, hi⟩ := List.mem_iff_getElem?.1 h1
    refine List.mem_iff_getElem?.2 ⟨i, ?_⟩
    rw [List.getElem?_set_ne]
    · exact hi
    · intro e; subst e; rw [hk] at hi; cases hi; exact h2 rfl) (by
    simp only [id]; exact hst.names.sublist ((List.eraseIdx_sublist V k).map NEnt.name))
  refine ⟨(resAV m).den env, ?_, PostT.mk hst3 (rnA p) hv hV (nodup_of_B hn) hcl hp hns⟩
  have h := results_run hr hf hst3
  simp only [results_eq, Array.mapM_eq_mapM_toList, Sem.run_bind, Sem.run_map, h, Result.andThen_ok]
  cases m with
  | nil => rfl
  | cons a m => cases m with
    | nil => rfl
    | cons b m => rfl
theorem retM {env0 : Env} {tn : List Nat} (p : List (Nat × Nat)) (k gm : Nat) (ns : List Nat) {v : AV} {news : List NEnt} {m : List AV} (hk : V[k]? = some (.inv gm (marksI df))) (hr : ResL P s (V.eraseIdx k) fn.results.toList m) (hv : v.ren (rnA p) = resAV m) (hV : SubV (rnA p) (V.eraseIdx k) news)
    (hn : nodupB (news.map fun x => rnA p x.name) = true) (hcl : closedN v news = true) (hp : PinsOk (rnA p) env0 (V.eraseIdx k) ns) (hns : ((news.map NEnt.name).all fun n => !tn.contains n || ns.contains n) = true) :
    TC P c ⟨nz, none, df⟩ (bodyPostM Fence.wide 0 P fn (PostT c env0 tn v news)) (.code .ret :: t) s V :=
  fun env tm W O R hf hst => Gw.ret (leave_core p k gm ns hk hr hv hV hn hcl hp hns hf hst)
theorem endM {env0 : Env} {tn : List Nat} (p : List (Nat × Nat)) (k gm : Nat) (ns : List Nat) {v : AV} {news : List NEnt} {m : List AV} (hk : V[k]? = some (.inv gm (marksI df))) (hr : ResL P s (V.eraseIdx k) fn.results.toList m) (hv : v.ren (rnA p) = resAV m) (hV : SubV (rnA p) (V.eraseIdx k) news)
    (hn : nodupB (news.map fun x => rnA p x.name) = true) (hcl : closedN v news = true) (hp : PinsOk (rnA p) env0 (V.eraseIdx k) ns) (hns : ((news.map NEnt.name).all fun n => !tn.contains n || ns.contains n) = true) :
    TC P c ⟨nz, none, df⟩ (bodyPostM Fence.wide 0 P fn (PostT c env0 tn v news)) [] s V :=
  fun env tm W O R hf hst => Gw.nil (leave_core p k gm ns hk hr hv hV hn hcl hp hns hf hst)
def pinsOf (env0 : Env) (ps : List (Nat × Nat)) : List NEnt := ps.map fun q => .pin q.1 q.2 (env0 q.2)
theorem introM {f : Nat} {body : Code} {args : List AV} {take need news : List NEnt} {v : AV} (gm : Nat) (ps : List (Nat × Nat)) (hf : P.funcs[f]? = some fn) (hb : fn.body = some body) (hsz : args.length + (fn.ntmps - args.length) = nz) (hnd : nodupB (gm :: ps.map Prod.fst ++ (take ++ need).map NEnt.name) = true)
    (hg : ((gm :: ps.map Prod.fst).all fun n => !AV.hasL n args && !hasV n (take ++ need) && !(ps.map Prod.snd).contains n) = true)
    (h : ∀ (w0 : World) (M R0 : Nat → Prop) (env0 : Env), TC P ⟨w0, M, R0⟩ ⟨nz, none, []⟩ (bodyPostM Fence.wide 0 P fn (PostT ⟨w0, M, R0⟩ env0 (take.map NEnt.name) v news)) [.code body] (args.zipIdx.map fun p => (p.2, p.1)) (.inv gm (marksI []) :: pinsOf env0 ps ++ (take ++ need))) : FT P f args take need v news := by
  intro env w0 M O' R0 hst0 hneed
  have hndT : ((take ++ need).map NEnt.name).Nodup := by
    have h1 := nodup_of_B hnd
    exact (List.nodup_append.1 h1).2.1
  have hdis : ∀ x ∈ need, x.name ∉ take.map NEnt.name := fun x hx hm => by
    rw [List.map_append, List.nodup_append] at hndT
    exact hndT.2.2 _ hm _ (List.mem_map.2 ⟨x, hx, rfl⟩) rfl
  obtain ⟨O, hO⟩ : ∃ O : Nat → Nat → Prop, O = fun n b => n ∈ take.map NEnt.name ∧ O' n b := ⟨_, rfl⟩
  have hst : St ⟨w0, M, R0⟩ env (take ++ need) w0 O R0 := by
    refine ⟨hst0.keep, fun x hx => ?_, fun x hx b hb => ?_, fun x hx y hy hne b hb => ?_, hst0.ro, hst0.r0, hndT⟩
    · rcases List.mem_append.1 hx with hx' | hx'
      · have e : O x.name = O' x.name := by
          funext b; rw [hO]; simp only [eq_iff_iff, and_iff_right_iff_imp]; exact fun _ => List.mem_map.2 ⟨x, hx', rfl⟩
        rw [e]; exact hst0.holds x hx'
      · exact ro_holds (hneed x hx').1 (hneed x hx').2 _
    · rw [hO] at hb
      rcases List.mem_append.1 hx with hx' | hx'
      · exact hst0.own x hx' b hb.2
      · exact absurd hb.1 (hdis x hx')
    · rw [hO] at hb
      rcases List.mem_append.1 hx with hx' | hx'
      · rcases List.mem_append.1 hy with hy' | hy'
        · exact hst0.apart x hx' y hy' hne b ⟨hb.1.2, hb.2.2⟩
        · exact absurd hb.2.1 (hdis y hy')
      · exact absurd hb.1.1 (hdis x hx')
  refine callsIn_wide.1 (callsIn_of_wp_marks (n := 0) hf hb trivial (Gw.wpIn (ro := none) ?_))
  have hgs : ∀ n ∈ gm :: ps.map Prod.fst, AV.hasL n args = false ∧ hasV n (take ++ need) = false ∧ n ∉ ps.map Prod.snd := by
    intro n hn
    have := List.all_eq_true.1 hg n hn
    simpa [and_assoc] using this
  have hnd' := nodup_of_B hnd
  have hx : ∀ x ∈ NEnt.inv gm (marksI []) :: pinsOf env ps, x.name ∈ gm :: ps.map Prod.fst := by
    intro x hx
    rcases List.mem_cons.1 hx with rfl | hx
    · simp [NEnt.name]
    · obtain ⟨q, hq, rfl⟩ := List.mem_map.1 hx
      simp only [NEnt.name, List.mem_cons, List.mem_map]; exact .inr ⟨q, hq, rfl⟩
  have hno : ∀ x ∈ NEnt.inv gm (marksI []) :: pinsOf env ps, ∀ y ∈ take ++ need, x.name ≠ y.name := by
    intro x hxm y hy e
    have := (hgs x.name (hx x hxm)).2.1
    rw [e, mem_has hy (NEnt.has_name y)] at this; cases this
  refine h w0 M R0 env env _ w0 (fun n b => n ∉ (gm :: ps.map Prod.fst) ∧ O n b) R0 ⟨by simp [denL_length, ← hsz], fun t a ha => ?_⟩ ⟨Keep.refl _ _, fun x hxm => ?_, fun x hxm b hb => ?_, fun x hxm y hym hne b hb => ?_, hst.ro, hst.r0, ?_⟩
  · have key : ∀ (l : List AV) (k : Nat), look ((l.zipIdx k).map fun p => (p.2, p.1)) t = some a → k ≤ t ∧ l[t - k]? = some a := by
      intro l
      induction l with
      | nil => intro k h; cases h
      | cons b l ih =>
        intro k h
        simp only [List.zipIdx_cons, List.map_cons, look] at h
        split at h
        · rename_i e; subst e; cases h; simp
        · obtain ⟨h1, h2⟩ := ih (k + 1) h
          refine ⟨by omega, ?_⟩
          rw [show t - k = (t - (k + 1)) + 1 by omega]
          simpa using h2
    obtain ⟨_, hk⟩ := key args 0 ha
    have := denL_get (e := env) hk
    simp only [Nat.sub_zero] at this
    rw [Array.getElem?_append_left (by simpa using (List.getElem?_eq_some_iff.1 this).1)]
    simpa using this
  · rcases List.mem_append.1 hxm with hxm | hxm
    · rcases List.mem_cons.1 hxm with rfl | hxm
      · trivial
      · obtain ⟨q, _, rfl⟩ := List.mem_map.1 hxm; rfl
    · have e : (fun b => x.name ∉ (gm :: ps.map Prod.fst) ∧ O x.name b) = O x.name := by
        funext b; simp only [eq_iff_iff, and_iff_right_iff_imp]; intro _ hm
        have := (hgs x.name hm).2.1
        rw [mem_has hxm (NEnt.has_name x)] at this; cases this
      rw [e]; exact hst.holds x hxm
  · rcases List.mem_append.1 hxm with hxm | hxm
    · exact absurd (hx x hxm) hb.1
    · exact hst.own x hxm b hb.2
  · rcases List.mem_append.1 hxm with hxm | hxm
    · exact absurd (hx x hxm) hb.1.1
    · rcases List.mem_append.1 hym with hym | hym
      · exact absurd (hx y hym) hb.2.1
      · exact hst.apart x hxm y hym hne b ⟨hb.1.2, hb.2.2⟩
  · have e : (NEnt.inv gm (marksI []) :: pinsOf env ps ++ (take ++ need)).map NEnt.name = gm :: ps.map Prod.fst ++ (take ++ need).map NEnt.name := by
      simp [pinsOf, NEnt.name, Function.comp_def]
    rw [e]; exact hnd'
end
end Go.Proofs.YtohjpfkcahlfkaaGreat.Sy
