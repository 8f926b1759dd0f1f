/- The small logic of symbolic states: steps that only change what is known; stores, append; calls and returns. -/
import Derived.Test.YtohjpfkcahlfkaaGreatPbSymB
set_option linter.unusedSimpArgs false
set_option linter.unusedVariables false
namespace Go.Proofs.YtohjpfkcahlfkaaGreat.Sy
open Go.RowKit
def SubS (p : Nat → Nat) (s : List (Nat × AV)) : List (Nat × AV) → Prop
  | [] => True
  | (t, a) :: l => look s t = some (a.ren p) ∧ SubS p s l
theorem SubS.look {p : Nat → Nat} {s s' : List (Nat × AV)} (h : SubS p s s') {t : Nat} {a : AV} (ht : look s' t = some a) : Sy.look s t = some (a.ren p) := by
  induction s' with
  | nil => cases ht
  | cons x l ih =>
    obtain ⟨k, b⟩ := x
    simp only [Sy.look] at ht
    split at ht
    · rename_i e; subst e; cases ht; exact h.1
    · exact ih h.2 ht
def SubV (p : Nat → Nat) (V : List NEnt) : List NEnt → Prop
  | [] => True
  | x :: l => x.ren p ∈ V ∧ SubV p V l
theorem SubV.mem {p : Nat → Nat} {V V' : List NEnt} (h : SubV p V V') : ∀ x ∈ V', x.ren p ∈ V := by
  induction V' with
  | nil => simp
  | cons y l ih =>
    intro x hx
    rcases List.mem_cons.1 hx with rfl | hx
    · exact h.1
    · exact ih h.2 x hx
theorem mem_at {α : Type} {l : List α} {x : α} (i : Nat) (h : l[i]? = some x) : x ∈ l := List.mem_of_getElem? h
theorem nodup_map_name {p : Nat → Nat} {V' : List NEnt} (hn : (V'.map fun x => p x.name).Nodup) : ∀ x ∈ V', ∀ y ∈ V', x.name ≠ y.name → p x.name ≠ p y.name := by
  induction V' with
  | nil => simp
  | cons a l ih =>
    simp only [List.map_cons, List.nodup_cons, List.mem_map, not_exists, not_and] at hn
    intro x hx y hy hne
    rcases List.mem_cons.1 hx with e1 | h1 <;> rcases List.mem_cons.1 hy with e2 | h2
    · exact absurd (by rw [e1, e2]) hne
    · intro e; rw [e1] at e; exact hn.1 y h2 e.symm
    · intro e; rw [e2] at e; exact hn.1 x h1 e
    · exact ih hn.2 x h1 y h2 hne
theorem nodup_of_map {p : Nat → Nat} {V' : List NEnt} (hn : (V'.map fun x => p x.name).Nodup) : (V'.map NEnt.name).Nodup := by
  have h : V'.map (fun x => p x.name) = (V'.map NEnt.name).map p := by simp [List.map_map, Function.comp_def]
  rw [h] at hn
  exact (List.Pairwise.of_map p (fun a b hab e => hab (by rw [e])) hn)
theorem St.sub {c : Ctx} {env : Env} {V V' : List NEnt} {W : World} {O : Nat → Nat → Prop} {R : Nat → Prop} (h : St c env V W O R) (p : Nat → Nat) (hV : ∀ x ∈ V', x.ren p ∈ V) (hn : (V'.map fun x => p x.name).Nodup) :
    St c (fun n => env (p n)) V' W (fun n => O (p n)) R := by
  refine ⟨h.keep, fun x hx => ?_, fun x hx b hb => ?_, fun x hx y hy hne b hb => ?_, h.ro, h.r0, nodup_of_map hn⟩
  · have := h.holds _ (hV x hx)
    rw [NEnt.holds_ren, NEnt.name_ren] at this
    exact this
  · have := h.own _ (hV x hx) b
    rw [NEnt.name_ren] at this
    exact this hb
  · have := h.apart _ (hV x hx) _ (hV y hy) (by rw [NEnt.name_ren, NEnt.name_ren]; exact nodup_map_name hn x hx y hy hne) b
    rw [NEnt.name_ren, NEnt.name_ren] at this
    exact this hb
section
variable {P : Program} {c : Ctx} {sz : Fm} {Q : Exit → Act → World → Prop} {t : List Item} {s s' : List (Nat × AV)} {V V' : List NEnt} {ops : Array Oper} {rest : List Oper} {o : Oper}
theorem TC.sub (p : Nat → Nat) (h : TC P c sz Q t s' V') (hs : SubS p s s') (hV : SubV p V V') (hn : (V'.map fun x => p x.name).Nodup) : TC P c sz Q t s V := by
  intro env tm W O R hf hst
  refine h _ tm W _ R ⟨hf.1, fun t a ha => ?_⟩ (hst.sub p hV.mem hn)
  rw [hf.2 t _ (hs.look ha), AV.den_ren]
theorem ghost {s' : List (Nat × AV)} {V' : List NEnt} (hg : ∀ env tm W O R, Fr env sz.sz s tm → St c env V W O R → ∃ env' O' R', Fr env' sz.sz s' tm ∧ St c env' V' W O' R') :
    (TC P c sz Q t s' V' → TC P c sz Q t s V) ∧ (TL P c sz Q ops rest t s' V' → TL P c sz Q ops rest t s V) :=
  ⟨fun h env tm W O R hf hst => let ⟨env', O', R', h1, h2⟩ := hg env tm W O R hf hst; h env' tm W O' R' h1 h2,
   fun h env tm W O R hf hst => let ⟨env', O', R', h1, h2⟩ := hg env tm W O R hf hst; h env' tm W O' R' h1 h2⟩
def NEnt.toRo : NEnt → NEnt
  | .row n _ size els => .ro n size els
  | .blk n cells T => .rob n cells T
  | .inv n I => .any n I.froz
  | x => x
theorem NEnt.toRo_name (x : NEnt) : x.toRo.name = x.name := by cases x <;> rfl
theorem row_ro {n E size : Nat} {els : List (List D)} {env : Env} {W : World} {O R R' : Nat → Prop} (hO : ∀ b, O b → R' b) (hR : ∀ b, R b → R' b) (h : (NEnt.row n E size els).holds env W O R) : reads size els W R' (env n) := by
  obtain ⟨a, cap, h1, h2, h3, h4, h5⟩ := row_read isOwn h
  refine ⟨a, cap, h1, h2, h3, h4, fun i el hi => ⟨(h5 i el hi).1, fun j d hj => ?_⟩⟩
  obtain ⟨b, o, ha, hb, u, hu, hd, h1⟩ := (h5 i el hi).2 j d hj
  exact ⟨b, o, ha, hb.elim (hR b) (hO b), u, hu, d.mono W W R R' (fun b hb => ⟨hR b hb, rfl⟩) u hd, h1⟩
theorem NEnt.toRo_holds {x : NEnt} {env : Env} {W : World} {O R R' : Nat → Prop} (hO : ∀ b, O b → R' b) (hR : ∀ b, R b → R' b) (h : x.holds env W O R) (O' : Nat → Prop) : x.toRo.holds env W O' R' := by
  cases x with
  | row n E size els => exact row_ro hO hR h
  | blk n cells T => obtain ⟨b, h1, h2, h3⟩ := h; exact ⟨b, h1, hO b h2, h3⟩
  | ro n size els => exact reads_mono (fun b hb => ⟨hR b hb, rfl⟩) h
  | rob n cells T => obtain ⟨b, h1, h2, h3⟩ := h; exact ⟨b, h1, hR b h2, h3⟩
  | any n d => exact d.mono W W R R' (fun b hb => ⟨hR b hb, rfl⟩) _ h
  | inv n I => exact ⟨O, hO, I.keep W W O R R' (fun _ _ => rfl) (fun b hb => ⟨hR b hb, rfl⟩) _ h⟩
  | pin g n u => exact h
theorem St.freeze {c : Ctx} {env : Env} {V : List NEnt} {W : World} {O : Nat → Nat → Prop} {R : Nat → Prop} (h : St c env V W O R) (k : Nat) {x : NEnt} (hk : V[k]? = some x) :
    St c env (V.set k x.toRo) W (fun n b => n ≠ x.name ∧ O n b) (fun b => R b ∨ O x.name b) := by
  classical
  have hx : x ∈ V := List.mem_of_getElem? hk
  have hmem : ∀ z ∈ V.set k x.toRo, z = x.toRo ∨ (z ∈ V) := fun z hz => by
    rcases List.mem_or_eq_of_mem_set hz with h | h
    · exact .inr h
    · exact .inl h
  have hnames : (V.set k x.toRo).map NEnt.name = V.map NEnt.name := by
    apply List.ext_getElem?
    intro i
    simp only [List.getElem?_map, List.getElem?_set]
    split
    · rename_i e; subst e
      split
      · rw [hk]; simp [NEnt.toRo_name]
      · rename_i hlt
        rw [List.getElem?_eq_none (by omega)]
    · rfl
  have hnd : ((V.set k x.toRo).map NEnt.name).Nodup := by rw [hnames]; exact h.names
  have hin : ∀ z ∈ V.set k x.toRo, z ≠ x.toRo → z.name ≠ x.name := by
    intro z hz hne e
    have h1 : x.toRo ∈ V.set k x.toRo := List.mem_of_getElem? (i := k) (by rw [List.getElem?_set_self]; exact (List.getElem?_eq_some_iff.1 hk).1)
    have : ∀ (l : List NEnt), (l.map NEnt.name).Nodup → ∀ a ∈ l, ∀ b ∈ l, a.name = b.name → a = b := by
      intro l
      induction l with
      | nil => simp
      | cons y l ih =>
        intro hn a ha b hb hab
        simp only [List.map_cons, List.nodup_cons, List.mem_map, not_exists, not_and] at hn
        rcases List.mem_cons.1 ha with e1 | h1 <;> rcases List.mem_cons.1 hb with e2 | h2
        · rw [e1, e2]
        · rw [e1] at hab; exact absurd hab.symm (hn.1 b h2)
        · rw [e2] at hab; exact absurd hab (hn.1 a h1)
        · exact ih hn.2 a h1 b h2 hab
    exact hne (this _ hnd z hz _ h1 (by rw [e, NEnt.toRo_name]))
  have hown : ∀ z ∈ V.set k x.toRo, ∀ b, (z.name ≠ x.name ∧ O z.name b) → z ∈ V := by
    intro z hz b ⟨hne, _⟩
    rcases hmem z hz with rfl | hz
    · exact absurd (NEnt.toRo_name x) hne
    · exact hz
  refine ⟨h.keep, fun z hz => ?_, fun z hz b hb => ?_, fun z hz z2 hz2 hne b hb => ?_, fun b hb => ?_, fun b hb => .inl (h.r0 b hb), hnd⟩
  · by_cases e : z = x.toRo
    · subst e
      exact NEnt.toRo_holds (O := O x.name) (R := R) (fun b hb => .inr hb) (fun b hb => .inl hb) (h.holds x hx) _
    · have hz' := (hmem z hz).resolve_left e
      have hne := hin z hz e
      have hh := h.holds z hz'
      have e2 : (fun b => z.name ≠ x.name ∧ O z.name b) = O z.name := by funext b; simp [hne]
      rw [e2]
      exact NEnt.holds_keep (fun _ _ => rfl) (fun b hb => ⟨.inl hb, rfl⟩) hh
  · have hz' := hown z hz b hb
    obtain ⟨h1, h2, h3⟩ := h.own z hz' b hb.2
    refine ⟨h1, h2, fun hr => hr.elim h3 (fun hox => h.apart z hz' x hx hb.1 b ⟨hb.2, hox⟩)⟩
  · exact h.apart z (hown z hz b hb.1) z2 (hown z2 hz2 b hb.2) hne b ⟨hb.1.2, hb.2.2⟩
  · rcases hb with hb | hb
    · exact h.ro b hb
    · obtain ⟨h1, h2, _⟩ := h.own x hx b hb
      exact ⟨h1, h2.elim .inl fun h => .inr (.inr h)⟩
end
section
variable {P : Program} {c : Ctx} {sz : Fm} {Q : Exit → Act → World → Prop} {t : List Item} {s s' : List (Nat × AV)} {V V' : List NEnt} {ops : Array Oper} {rest : List Oper} {o : Oper}
theorem TC.freeze (k : Nat) {x : NEnt} (hk : V[k]? = some x) (h : TC P c sz Q t s (V.set k x.toRo)) : TC P c sz Q t s V :=
  fun env tm W O R hf hst => h env tm W _ _ hf (hst.freeze k hk)
theorem TL.freeze (k : Nat) {x : NEnt} (hk : V[k]? = some x) (h : TL P c sz Q ops rest t s (V.set k x.toRo)) : TL P c sz Q ops rest t s V :=
  fun env tm W O R hf hst => h env tm W _ _ hf (hst.freeze k hk)
end
section
variable {P : Program} {c : Ctx} {sz : Fm} {Q : Exit → Act → World → Prop} {t : List Item} {s s' : List (Nat × AV)} {V V' : List NEnt} {ops : Array Oper} {rest : List Oper} {o : Oper}
theorem St.addRo {env : Env} {W : World} {O : Nat → Nat → Prop} {R : Nat → Prop} (h : St c env V W O R) {x : NEnt} {v : Value} (hf : hasV x.name V = false) (hh : ∀ O, x.holds (setEnv env x.name v) W O R) :
    St c (setEnv env x.name v) (x :: V) W (fun n b => n ≠ x.name ∧ O n b) R := by
  have hne : ∀ y ∈ V, y.name ≠ x.name := fun y hy e => by
    have := mem_has hy (NEnt.has_name y)
    rw [e, hf] at this; cases this
  refine ⟨h.keep, fun y hy => ?_, fun y hy b hb => ?_, fun y hy z hz hn b hb => ?_, h.ro, h.r0, ?_⟩
  · rcases List.mem_cons.1 hy with rfl | hy
    · exact hh _
    · have e2 : (fun b => y.name ≠ x.name ∧ O y.name b) = O y.name := by funext b; simp [hne y hy]
      rw [e2]
      exact NEnt.holds_congr (fun n hn => (setEnv_other fun e => by subst e; rw [mem_has hy hn] at hf; cases hf).symm) (h.holds y hy)
  · rcases List.mem_cons.1 hy with rfl | hy
    · exact absurd rfl hb.1
    · exact h.own y hy b hb.2
  · rcases List.mem_cons.1 hy with rfl | hy
    · exact hb.1.1 rfl
    · rcases List.mem_cons.1 hz with rfl | hz
      · exact hb.2.1 rfl
      · exact h.apart y hy z hz hn b ⟨hb.1.2, hb.2.2⟩
  · simp only [List.map_cons, List.nodup_cons]
    exact ⟨fun hm => by obtain ⟨y, hy, e⟩ := List.mem_map.1 hm; exact hne y hy e, h.names⟩
theorem nilRow (d n E size : Nat) (hs : look s d = some (.val (.slice none 0 0))) (hf : freshN [.row n E size []] s V = true) :
    (TC P c sz Q t ((d, .ref n) :: s) (.row n E size [] :: V) → TC P c sz Q t s V) ∧ (TL P c sz Q ops rest t ((d, .ref n) :: s) (.row n E size [] :: V) → TL P c sz Q ops rest t s V) := by
  have hf' : hasS n s = false ∧ hasV n V = false := by simpa [freshN, NEnt.name] using hf
  refine ghost fun env tm W O R hfr hst => ⟨setEnv env n (.slice none 0 0), _, R, ⟨hfr.1, fun t a ha => ?_⟩, hst.addRo (x := .row n E size []) (v := .slice none 0 0) hf'.2 fun O => ?_⟩
  · simp only [look] at ha
    split at ha
    · rename_i e; subst e; cases ha
      rw [hfr.2 _ _ hs]
      simp [AV.den, setEnv_same, oneOf]
    · rw [hfr.2 t a ha, AV.den_congr a (fun m hm => (setEnv_other (n := n) (m := m) fun e => by subst e; rw [look_has ha hm] at hf'; cases hf'.1).symm)]
  · simp only [NEnt.holds, NEnt.name, setEnv_same]
    exact ⟨by simp, [], World.ownsRow_nil _ _ _ _, by simp [Value.ownBlock], by simp⟩
end
end Go.Proofs.YtohjpfkcahlfkaaGreat.Sy
