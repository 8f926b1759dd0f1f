/- Texts joined into one: SymRM, SymRN, SymO. -/
import Derived.Test.YtjmkjlhnipnkcaaPfSymMJ
import Derived.Test.YtjmkjlhnipnkcaaPfSymEJ
import Derived.OpenShut
import Derived.Deep.SlicePairs
section
set_option linter.unusedSimpArgs false
set_option linter.unusedVariables false
namespace Go.Proofs.Ytjmkjlhnipnkcaa.Sy
open Go.RowKit
def rowsIO {X : Type} (E : Nat) (CI : X → Inv) (xs : List X) (hole : Option Nat) : Inv :=
  ⟨fun W O R v => ∃ (us : List Value) (Oo : Nat → Prop) (Os : Nat → Nat → Prop), us.length = xs.length ∧ (NEnt.row 0 E 1 (us.map fun u => [D.v u])).holds (fun _ => v) W Oo R ∧ (∀ b, Oo b → O b) ∧ (∀ j b, Os j b → O b ∧ ¬ Oo b) ∧ (∀ i j b, i ≠ j → Os i b → Os j b → False) ∧
      ∀ (j : Nat) (u : Value) (x : X), us[j]? = some u → xs[j]? = some x → hole ≠ some j → (CI x).ok W (Os j) R u,
   fun W W' O R R' hO hR v ⟨us, Oo, Os, h1, h2, h3, h4, h5, h6⟩ => ⟨us, Oo, Os, h1, NEnt.holds_keep (fun b hb => hO b (h3 b hb)) hR h2, h3, h4, h5, fun j u x hu hx hh => (CI x).keep W W' (Os j) R R' (fun b hb => hO b (h4 j b hb).1) hR u (h6 j u x hu hx hh)⟩⟩
def rowsIF {X : Type} (E : Nat) (CI : X → Inv) (xs : List X) (k : Nat) (u0 : Value) : Inv :=
  ⟨fun W O R v => ∃ (us : List Value) (Oo : Nat → Prop) (Os : Nat → Nat → Prop), us.length = xs.length ∧ (NEnt.row 0 E 1 (us.map fun u => [D.v u])).holds (fun _ => v) W Oo R ∧ (∀ b, Oo b → O b) ∧ (∀ j b, Os j b → O b ∧ ¬ Oo b) ∧ (∀ i j b, i ≠ j → Os i b → Os j b → False) ∧
      (∀ (j : Nat) (u : Value) (x : X), us[j]? = some u → xs[j]? = some x → k ≠ j → (CI x).ok W (Os j) R u) ∧ us[k]? = some u0,
   fun W W' O R R' hO hR v ⟨us, Oo, Os, h1, h2, h3, h4, h5, h6, h7⟩ => ⟨us, Oo, Os, h1, NEnt.holds_keep (fun b hb => hO b (h3 b hb)) hR h2, h3, h4, h5, fun j u x hu hx hh => (CI x).keep W W' (Os j) R R' (fun b hb => hO b (h4 j b hb).1) hR u (h6 j u x hu hx hh), h7⟩⟩
theorem rowsIO_froz {X : Type} {E : Nat} {CI : X → Inv} {xs : List X} {W : World} {O R R' : Nat → Prop} {v : Value} (hO : ∀ b, O b → R' b) (hR : ∀ b, R b → R' b) (h : (rowsIO E CI xs none).ok W O R v) : reads 1 (xs.map fun x => [(CI x).froz]) W R' v := by
  obtain ⟨us, Oo, Os, h1, h2, h3, h4, h5, h6⟩ := h;obtain ⟨a, cap, g1, g2, g3, g4, g5⟩ := outer_read h2;refine ⟨a, cap, by rw [List.length_map, ← h1]; exact g1, by rw [List.length_map, ← h1]; exact g3, g4, g2, fun i el hi => ?_⟩;rw [List.getElem?_map] at hi
  cases hx : xs[i]? with
  | none => rw [hx] at hi; cases hi
  | some x =>
    rw [hx] at hi;cases hi;refine ⟨rfl, fun j d hj => ?_⟩
    cases j with
    | succ j => simp at hj
    | zero =>
      simp at hj;subst hj;have hlt : i < us.length := by rw [h1]; exact (List.getElem?_eq_some_iff.1 hx).1
      obtain ⟨b, o, ha, hb, hc, hone⟩ := g5 i us[i] (List.getElem?_eq_getElem hlt);exact ⟨b, o, ha, hb.elim (hR b) (fun h => hO b (h3 b h)), us[i], by simpa using hc, ⟨Os i, fun b hb => hO b (h4 i b hb).1, (CI x).keep W W (Os i) R R' (fun _ _ => rfl) (fun b hb => ⟨hR b hb, rfl⟩) _ (h6 i _ x (List.getElem?_eq_getElem hlt) hx (by simp))⟩, hone⟩
section
variable {P : Program} {c : Ctx} {sz : Fm} {Q : Exit → Act → World → Prop} {t : List Item} {s : List (Nat × AV)} {V : List NEnt} {ops : Array Oper} {rest : List Oper} {o : Oper} {ρ : Operand → Option AV}
theorem thawRI {X : Type} {n E : Nat} {CI : X → Inv} {xs : List X} (k : Nat) (hk : V[k]? = some (.inv n (rowsIO E CI xs none))) {env : Env} {W : World} {O : Nat → Nat → Prop} {R : Nat → Prop} (h : St c env V W O R) :
    ∃ O' R', St c env (V.set k (.ro n 1 (xs.map fun x => [(CI x).froz]))) W O' R' := by
  have hlt := (List.getElem?_eq_some_iff.1 hk).1;have hh := h.holds _ (List.mem_of_getElem? hk);have h1 := h.freeze k hk;have hk2 : (V.set k (NEnt.inv n (rowsIO E CI xs none)).toRo)[k]? = some (.any n (rowsIO E CI xs none).froz) := by rw [List.getElem?_set_self hlt]; rfl
  have h2 := h1.write (y := .ro n 1 (xs.map fun x => [(CI x).froz])) k hk2 (Keep.refl _ _) rfl (rowsIO_froz (fun b hb => .inr hb) (fun b hb => .inl hb) hh);rw [List.set_set] at h2;exact ⟨_, _, h2⟩
theorem TC.freezeRI {X : Type} {n E : Nat} {CI : X → Inv} {xs : List X} (k : Nat) (hk : V[k]? = some (.inv n (rowsIO E CI xs none))) (h : TC P c sz Q t s (V.set k (.ro n 1 (xs.map fun x => [(CI x).froz])))) : TC P c sz Q t s V :=
  fun env tm W O R hf hst => by obtain ⟨O', R', h2⟩ := thawRI k hk hst; exact h env tm W O' R' hf h2
theorem TL.freezeRI {X : Type} {n E : Nat} {CI : X → Inv} {xs : List X} (k : Nat) (hk : V[k]? = some (.inv n (rowsIO E CI xs none))) (h : TL P c sz Q ops rest t s (V.set k (.ro n 1 (xs.map fun x => [(CI x).froz])))) : TL P c sz Q ops rest t s V :=
  fun env tm W O R hf hst => by obtain ⟨O', R', h2⟩ := thawRI k hk hst; exact h env tm W O' R' hf h2
theorem sp_indexIO {X : Type} {T E bytes n : Nat} {x i : Operand} {k : IntKind} {iv : Int} {CI : X → Inv} {xs : List X} {hole : Option Nat} {y : NEnt} (ho : o.op = .indexAddr T x i) (hx : ρ x = some (.ref n)) (hi : ρ i = some (.val (.int k iv))) (hy : y = .inv n (rowsIO E CI xs hole)) (hT : SlT P T E 1 bytes)
    {l : X} (h0 : decide (0 ≤ iv) = true) (he : xs[iv.toNat]? = some l) : OpSpec P o ρ [y] (.cell n iv.toNat) [] := by
  subst hy;refine .pure fun ev env W O R hev hn => ?_
  obtain ⟨us, Oo, Os, h1, h2, _⟩ := hn _ (List.mem_singleton.2 rfl);obtain ⟨ad, cap, g1, g2, g3, g4, g5⟩ := outer_read h2;obtain ⟨ti, z, hti, _, hts, _, _⟩ := hT.info;have h0' : 0 ≤ iv := of_decide_eq_true h0;have hlt' : iv < us.length := by
    have := (List.getElem?_eq_some_iff.1 he).1
    omega
  cases ad with
  | none => have := g2 rfl; omega
  | some ad =>
    have hx' := hev x _ hx;simp only [AV.den, g1, oneOf] at hx';simp [execOp, ho, hx', hev i _ hi, AV.den, Instr.indexAt, asIntOf, run_underlying hT.under, sizeOf, typeInfo, hti, hts, h0', hlt', g1, cellAt]
theorem lendI_core {X : Type} {n j E : Nat} (k g m : Nat) {CI : X → Inv} {xs : List X} {l : X} (hk : V[k]? = some (.inv n (rowsIO E CI xs none))) (hl : xs[j]? = some l)
    (hf : (!hasS g s && !hasV g V && !hasS m s && !hasV m V && !Nat.beq g m) = true) {env : Env} {tm : Array Value} {W : World} {O : Nat → Nat → Prop} {R : Nat → Prop} (hfr : Fr env sz.sz s tm) (hst : St c env V W O R) :
    ∃ u env' O', Fr env' sz.sz s tm ∧ St c env' (.pin g m u :: .inv m (CI l) :: .inv n (rowsIF E CI xs j u) :: delV [n] V) W O' R := by
  simp only [Bool.and_eq_true, Bool.not_eq_true'] at hf;obtain ⟨⟨⟨⟨hg1, hg2⟩, hm1⟩, hm2⟩, hgm⟩ := hf;have hgm : g ≠ m := fun e => by subst e; rw [Nat.beq_refl] at hgm; cases hgm
  have hm := List.mem_of_getElem? hk;have hmne : m ≠ n := fun e => by subst e; have := mem_has hm (n := m) (by simp [NEnt.has]); rw [hm2] at this; cases this
  have hgne : g ≠ n := fun e => by subst e; have := mem_has hm (n := g) (by simp [NEnt.has]); rw [hg2] at this; cases this
  obtain ⟨us, Oo, Os, h1, h2, h3, h4, h5, h6⟩ := hst.holds _ hm;have hlt : j < us.length := by rw [h1]; exact (List.getElem?_eq_some_iff.1 hl).1
  have hrj := h6 j us[j] l (List.getElem?_eq_getElem hlt) hl (by simp);have hn1 : setEnv env m us[j] n = env n := setEnv_other hmne
  classical
  have hover := hst.over (take := [.inv n (rowsIO E CI xs none)]) (M1 := fun b => O n b) (env' := setEnv env m us[j]) (news := [.pin g m us[j], .inv m (CI l), .inv n (rowsIF E CI xs j us[j])]) (W' := W) (R' := R)
    (O' := fun q b => if q = m then Os j b else if q = g then False else O n b ∧ ¬ Os j b) (fun x hx => by rw [List.mem_singleton.1 hx]; exact hm) (fun b hb => ⟨_, List.mem_singleton.2 rfl, hb⟩) ⟨Keep.refl _ _, fun y hy => ?_, fun y hy b hb => ?_, fun y hy z hz hne b hb => ?_, fun b hb => ⟨(hst.ro b hb).1, .inr (.inl hb)⟩, fun _ h => h, ?_⟩ (fun q hq => setEnv_other (hq (.inv m (CI l)) (by simp) (by simp [NEnt.name, hmne]))) (fun y hy => by
      simp only [List.mem_cons, List.not_mem_nil, or_false] at hy;rcases hy with rfl | rfl | rfl
      · exact .inr hg2
      · exact .inr hm2
      · exact .inl (by simp [NEnt.name]))
  · obtain ⟨O2, h⟩ := hover;exact ⟨_, _, O2, hfr.congr fun q hq => (setEnv_other fun e => by subst e; rw [hm1] at hq; cases hq).symm, h⟩
  · simp only [List.mem_cons, List.not_mem_nil, or_false] at hy;rcases hy with rfl | rfl | rfl
    · exact setEnv_same ..
    · simp only [NEnt.name, if_true];simp only [NEnt.holds, setEnv_same] at hrj ⊢;exact hrj
    · simp only [NEnt.holds, NEnt.name, hn1, Ne.symm hmne, Ne.symm hgne, if_false];refine ⟨us, Oo, fun q b => Os q b ∧ ¬ Os j b, h1, h2, fun b hb => ⟨h3 b hb, fun h => (h4 j b h).2 hb⟩, fun q b hq => ⟨⟨(h4 q b hq.1).1, hq.2⟩, (h4 q b hq.1).2⟩, fun q q' b hne h h' => h5 q q' b hne h.1 h'.1, fun q u y hu hy hh => ?_, List.getElem?_eq_getElem hlt⟩;have e2 : (fun b => Os q b ∧ ¬ Os j b) = Os q := by
        funext b; exact propext ⟨fun h => h.1, fun h => ⟨h, fun h' => h5 q j b (Ne.symm hh) h h'⟩⟩
      show (CI y).ok W (fun b => Os q b ∧ ¬ Os j b) R (u);rw [e2]; exact h6 q u y hu hy (by simp)
  · simp only [List.mem_cons, List.not_mem_nil, or_false] at hy;have hb' : O n b := by
      rcases hy with rfl | rfl | rfl
      · simp [NEnt.name, hgm] at hb
      · simp only [NEnt.name, if_true] at hb; exact (h4 j b hb).1
      · simp only [NEnt.name, Ne.symm hmne, Ne.symm hgne, if_false] at hb; exact hb.1
    obtain ⟨q1, q2, q3⟩ := hst.own _ hm b hb';exact ⟨q1, .inr hb', q3⟩
  · simp only [List.mem_cons, List.not_mem_nil, or_false] at hy hz;rcases hy with rfl | rfl | rfl <;> rcases hz with rfl | rfl | rfl <;> first | exact hne rfl | (simp only [NEnt.name, hgm, Ne.symm hmne, Ne.symm hgne, if_false, if_true] at hb; first | exact hb.1.elim | exact hb.2.elim | exact hb.1.2 hb.2 | exact hb.2.2 hb.1)
  · simp [NEnt.name, Ne.symm hmne, hgm, hgne, hmne]
theorem TC.lendI {X : Type} {n j E : Nat} (k g m : Nat) (V' : List NEnt) {CI : X → Inv} {xs : List X} {l : X} (hk : V[k]? = some (.inv n (rowsIO E CI xs none))) (hl : xs[j]? = some l) (hf : (!hasS g s && !hasV g V && !hasS m s && !hasV m V && !Nat.beq g m) = true)
    (hV : delV [n] V = V') (h : ∀ u, TC P c sz Q t s (.pin g m u :: .inv m (CI l) :: .inv n (rowsIF E CI xs j u) :: V')) : TC P c sz Q t s V :=
  fun env tm W O R hfr hst => by
    obtain ⟨u, env', O', h1, h2⟩ := lendI_core k g m hk hl hf hfr hst;rw [hV] at h2;exact h u env' tm W O' R h1 h2
theorem TL.lendI {X : Type} {n j E : Nat} (k g m : Nat) (V' : List NEnt) {CI : X → Inv} {xs : List X} {l : X} (hk : V[k]? = some (.inv n (rowsIO E CI xs none))) (hl : xs[j]? = some l) (hf : (!hasS g s && !hasV g V && !hasS m s && !hasV m V && !Nat.beq g m) = true)
    (hV : delV [n] V = V') (h : ∀ u, TL P c sz Q ops rest t s (.pin g m u :: .inv m (CI l) :: .inv n (rowsIF E CI xs j u) :: V')) : TL P c sz Q ops rest t s V :=
  fun env tm W O R hfr hst => by
    obtain ⟨u, env', O', h1, h2⟩ := lendI_core k g m hk hl hf hfr hst;rw [hV] at h2;exact h u env' tm W O' R h1 h2
theorem giveI_core {X : Type} {n j E g m : Nat} {u0 : Value} (k k1 k2 : Nat) (l : X) {CI : X → Inv} {xs ys : List X} (hk : V[k]? = some (.inv n (rowsIF E CI xs j u0))) (hk1 : V[k1]? = some (.inv m (CI l))) (hk2 : V[k2]? = some (.pin g m u0)) (hmn : (m == n) = false) (hys : xs.set j l = ys)
    {env : Env} {W : World} {O : Nat → Nat → Prop} {R : Nat → Prop} (hst : St c env V W O R) :
    ∃ O', St c env (.inv n (rowsIO E CI ys none) :: delV [n, m, g] V) W O' R := by
  subst hys;have hmne : m ≠ n := by simpa using hmn
  have hm := List.mem_of_getElem? hk;have hr := List.mem_of_getElem? hk1;have hp := List.mem_of_getElem? hk2;obtain ⟨us, Oo, Os, h1, h2, h3, h4, h5, h6, h7⟩ := hst.holds _ hm;have hrw := hst.holds _ hr;have hpin : env m = u0 := hst.holds _ hp;have hjl : j < us.length := (List.getElem?_eq_some_iff.1 h7).1;simp only [NEnt.name] at h2 h3 h4;have hOm : ∀ b, O m b → ¬ O n b := fun b hb h => hst.apart _ hm _ hr (by simp [NEnt.name, Ne.symm hmne]) b ⟨h, hb⟩
  classical
  refine hst.over (take := [NEnt.inv n (rowsIF E CI xs j u0), NEnt.inv m (CI l), NEnt.pin g m u0]) (M1 := fun b => O n b ∨ O m b) (env' := env) (news := [.inv n (rowsIO E CI (xs.set j l) none)]) (W' := W) (R' := R)
    (O' := fun _ b => O n b ∨ O m b) (fun x hx => by simp only [List.mem_cons, List.not_mem_nil, or_false] at hx; rcases hx with rfl | rfl | rfl <;> assumption) (fun b hb => hb.elim (fun h => ⟨NEnt.inv n (rowsIF E CI xs j u0), by simp, h⟩) (fun h => ⟨NEnt.inv m (CI l), by simp, h⟩)) ⟨Keep.refl _ _, fun z hz => ?_, fun z hz b hb => ?_, fun z hz z2 hz2 hne b hb => ?_, fun b hb => ⟨(hst.ro b hb).1, .inr (.inl hb)⟩, fun _ h => h, by simp⟩ (fun _ _ => rfl) (fun z hz => by
      simp only [List.mem_singleton] at hz; subst hz; exact .inl (by simp [NEnt.name]))
  · simp only [List.mem_singleton] at hz;subst hz;refine ⟨us, Oo, fun q b => if q = j then O m b else Os q b ∧ q ≠ j, by rw [List.length_set]; exact h1, h2, fun b hb => .inl (h3 b hb), fun q b hq => ?_, fun q q' b hne hq hq' => ?_, fun q u y2 hu hy2 _ => ?_⟩
    · dsimp only at hq
      split at hq
      · exact ⟨.inr hq, fun h => (hOm b hq) (h3 b h)⟩
      · exact ⟨.inl (h4 q b hq.1).1, (h4 q b hq.1).2⟩
    · dsimp only at hq hq'
      split at hq <;> split at hq'
      · rename_i a b; exact hne (a.trans b.symm)
      · exact (hOm b hq) (h4 q' b hq'.1).1
      · exact (hOm b hq') (h4 q b hq.1).1
      · exact h5 q q' b hne hq.1 hq'.1
    · rw [List.getElem?_set] at hy2
      by_cases e : j = q
      · subst e;rw [if_pos rfl, if_pos (by omega)] at hy2;rw [h7] at hu;cases hu; cases hy2
        simp only [NEnt.holds, NEnt.name, if_true] at hrw ⊢;rw [← hpin]; exact hrw
      · rw [if_neg e] at hy2;have h8 := h6 q u y2 hu hy2 e;have e5 : (fun b => if q = j then O m b else Os q b ∧ q ≠ j) = Os q := by
          funext b
          rw [if_neg (Ne.symm e)];exact propext ⟨fun h => h.1, fun h => ⟨h, Ne.symm e⟩⟩
        show (CI y2).ok W (fun b => if q = j then O m b else Os q b ∧ q ≠ j) R (u);rw [e5]; exact h8
  · rcases hb with hb | hb
    · obtain ⟨q1, q2, q3⟩ := hst.own _ hm b hb; exact ⟨q1, .inr (.inl hb), q3⟩
    · obtain ⟨q1, q2, q3⟩ := hst.own _ hr b hb; exact ⟨q1, .inr (.inr hb), q3⟩
  · simp only [List.mem_singleton] at hz hz2;subst hz; subst hz2; exact hne rfl
theorem TC.giveI {X : Type} {n j E g m : Nat} {u0 : Value} (k k1 k2 : Nat) (l : X) (V' : List NEnt) {CI : X → Inv} {xs ys : List X} (hk : V[k]? = some (.inv n (rowsIF E CI xs j u0))) (hk1 : V[k1]? = some (.inv m (CI l))) (hk2 : V[k2]? = some (.pin g m u0)) (hmn : (m == n) = false) (hys : xs.set j l = ys)
    (hV : delV [n, m, g] V = V') (h : TC P c sz Q t s (.inv n (rowsIO E CI ys none) :: V')) : TC P c sz Q t s V :=
  fun env tm W O R hfr hst => by obtain ⟨O', h2⟩ := giveI_core k k1 k2 l hk hk1 hk2 hmn hys hst; rw [hV] at h2; exact h env tm W O' R hfr h2
theorem TL.giveI {X : Type} {n j E g m : Nat} {u0 : Value} (k k1 k2 : Nat) (l : X) (V' : List NEnt) {CI : X → Inv} {xs ys : List X} (hk : V[k]? = some (.inv n (rowsIF E CI xs j u0))) (hk1 : V[k1]? = some (.inv m (CI l))) (hk2 : V[k2]? = some (.pin g m u0)) (hmn : (m == n) = false) (hys : xs.set j l = ys)
    (hV : delV [n, m, g] V = V') (h : TL P c sz Q ops rest t s (.inv n (rowsIO E CI ys none) :: V')) : TL P c sz Q ops rest t s V :=
  fun env tm W O R hfr hst => by obtain ⟨O', h2⟩ := giveI_core k k1 k2 l hk hk1 hk2 hmn hys hst; rw [hV] at h2; exact h env tm W O' R hfr h2
theorem sp_loadIF {X : Type} {T n j E g m : Nat} {u0 : Value} {x : Operand} {CI : X → Inv} {xs : List X} (ho : o.op = .load T x) (hx : ρ x = some (.cell n j)) (hT : VarT P T 1 false) :
    OpSpec P o ρ [.inv n (rowsIF E CI xs j u0), .pin g m u0] (.ref m) [] := by
  refine .pure fun ev env W O R hev hn => ?_
  obtain ⟨us, Oo, Os, h1, h2, h3, h4, h5, h6, h7⟩ := hn (.inv n (rowsIF E CI xs j u0)) (by simp);have hpin : env m = u0 := hn (.pin g m u0) (by simp);obtain ⟨ad, cap, g1, g2, g3, g4, g5⟩ := outer_read h2;obtain ⟨b, off, ha, _, hcell, hone⟩ := g5 j u0 h7;subst ha;have hx' := hev x _ hx;simp only [AV.den, NEnt.name] at hx' g1;rw [cellAt_eq g1] at hx';simp [execOp, ho, hx', Instr.loadAt, Instr.sureAddr, loadVar, hT.isAgg, hcell, AV.den, hpin, oneOf_of_one hone]
theorem sp_indexIF {X : Type} {T E bytes n j : Nat} {x i : Operand} {k : IntKind} {iv : Int} {CI : X → Inv} {xs : List X} {u0 : Value} {y : NEnt} (ho : o.op = .indexAddr T x i) (hx : ρ x = some (.ref n)) (hi : ρ i = some (.val (.int k iv))) (hy : y = .inv n (rowsIF E CI xs j u0)) (hT : SlT P T E 1 bytes)
    {l : X} (h0 : decide (0 ≤ iv) = true) (he : xs[iv.toNat]? = some l) : OpSpec P o ρ [y] (.cell n iv.toNat) [] := by
  subst hy;refine .pure fun ev env W O R hev hn => ?_
  obtain ⟨us, Oo, Os, h1, h2, _⟩ := hn _ (List.mem_singleton.2 rfl);obtain ⟨ad, cap, g1, g2, g3, g4, g5⟩ := outer_read h2;obtain ⟨ti, z, hti, _, hts, _, _⟩ := hT.info;have h0' : 0 ≤ iv := of_decide_eq_true h0;have hlt' : iv < us.length := by
    have := (List.getElem?_eq_some_iff.1 he).1
    omega
  cases ad with
  | none => have := g2 rfl; omega
  | some ad =>
    have hx' := hev x _ hx;simp only [AV.den, g1, oneOf] at hx';simp [execOp, ho, hx', hev i _ hi, AV.den, Instr.indexAt, asIntOf, run_underlying hT.under, sizeOf, typeInfo, hti, hts, h0', hlt', g1, cellAt]
theorem sp_emptyIO {X : Type} {T E bytes : Nat} (r : Nat) {CI : X → Inv} (xs : List X) (he : xs = []) (ho : o.op = .buildSlice T 0 #[]) (hT : SlT P T E 1 bytes) : OpSpec P o ρ [] (.ref r) [.inv r (rowsIO E CI xs none)] := by
  subst he;intro ev env W O R hev hn hO hR;refine (sp_emptySlice (P := P) r ho hT ev env W O R hev hn hO hR).mono ?_
  rintro u W' ⟨env', O', R', he', hu, hst⟩
  refine ⟨env', O', R', fun m hm => he' m (fun z hz2 => by rw [List.mem_singleton] at hz2; subst hz2; exact hm (.inv r (rowsIO E CI [] none)) (by simp)), hu, ?_⟩;have hrow := hst.holds (.row r E 1 []) (by simp);exact hst.write (y := .inv r (rowsIO E CI [] none)) 0 rfl (Keep.refl _ _) rfl ⟨[], O' r, fun _ _ => False, rfl, hrow, fun b hb => hb, fun _ _ hb => hb.elim, fun _ _ _ _ hb => hb.elim, fun j u x hu _ _ => by simp at hu⟩
theorem ts_oneIO {X : Type} {T E bytes m : Nat} (r : Nat) {y : Operand} {CI : X → Inv} (l : X) (ho : o.op = .buildSlice T 1 #[(0, y)]) (hy : rho s y = some (.ref m)) (hT : SlT P T E 1 bytes) (hoc : ∀ W O R v, (CI l).ok W O R v → v.oneCell' = true) (hrm : (r == m) = false) :
    TSpec P o (rho s) [.inv m (CI l)] [] (.ref r) [.inv r (rowsIO E CI [l] none)] := by
  intro evl c env W0 W O R he hst ht hnd hnn;have hr := ht (.inv m (CI l)) (by simp);have hrne : r ≠ m := by simpa using hrm
  have hrV : hasV r W0 = false := by
    rcases hnn (.inv r (rowsIO E CI [l] none)) (by simp) with h | h
    · simp [NEnt.name, hrne] at h
    · exact h
  have hrw := hst.holds _ hr;have hone : oneOf (env m) = env m ∧ (env m).oneCell' = true := ⟨oneOf_of_one (hoc _ _ _ _ hrw), hoc _ _ _ _ hrw⟩
  classical
  have hsp := sp_buildSlice (P := P) (o := o) (ρ := fun z => if z = y then some (.val (env m)) else none) (qs := [.val (env m)]) (need := []) (els := [[D.v (env m)]]) r (ps := [(0, y)]) ho hT (by simp) (by simp) rfl (by simp) (by simp [AV.flat, AV.one, AV.cs, hone.2, cells_one hone.2]) (by simpa [AV.cs, cells_one hone.2] using ADL.v ADL.nil) (by simp) rfl (by simp [AV.cs, cells_one hone.2, AV.has]) (by simp) evl env W (fun _ _ => False) R (fun z a hz => by
      have hz : (if z = y then some (AV.val (env m)) else none) = some a := hz
      split at hz
      · rename_i e; cases hz; rw [e, he y _ hy]; exact hone.1
      · cases hz) (by simp) (by simp) (fun b hb => (hst.ro b hb).1)
  refine hsp.mono ?_
  rintro u W' ⟨env', O', R', he', hu, hst'⟩
  have hkeep := hst'.keep;have hrow := hst'.holds _ (List.mem_singleton.2 rfl);have hem : env' m = env m := he' m (fun x hx => by rw [List.mem_singleton] at hx; subst hx; exact hrne);have hnew : ∀ b, O' r b → W.heap.size ≤ b := fun b hb => by
    rcases (hst'.own _ (List.mem_singleton.2 rfl) b hb).2.1 with h | h
    · exact h
    · exact h.elim
  have hold : ∀ b, O m b → b < W.heap.size := fun b hb => (hst.own _ hr b hb).1
  have hRR : ∀ b, O m b → ¬ R' b := fun b hb h => by
    rcases (hst'.ro b h).2 with h2 | h2 | h2
    · exact absurd (hold b hb) (Nat.not_lt.2 h2)
    · exact (hst.own _ hr b hb).2.2 h2
    · exact h2
  suffices hs : ∃ O2, St c env' ([NEnt.inv r (rowsIO E CI [l] none)] ++ delV ([NEnt.inv m (CI l)].map NEnt.name) W0) W' O2 R' by
    obtain ⟨O2, h⟩ := hs;exact ⟨env', O2, R', fun q hq => he' q (fun x hx => by rw [List.mem_singleton] at hx; subst hx; exact hq (.inv r (rowsIO E CI [l] none)) (by simp) (by simp [NEnt.name, hrne])), hu, h⟩
  refine hst.over (take := [NEnt.inv m (CI l)]) (M1 := fun b => O m b) (env' := env') (news := [.inv r (rowsIO E CI [l] none)]) (W' := W') (R' := R')
    (O' := fun _ b => O' r b ∨ O m b) ht (fun b hb => ⟨NEnt.inv m (CI l), by simp, hb⟩) ⟨⟨hkeep.os, hkeep.tape, hkeep.output, hkeep.size, fun b hb hn => hkeep.block b hb id⟩, fun z hz => ?_, fun z hz b hb => ?_, fun z hz z2 hz2 hne b hb => ?_, fun b hb => ?_, hst'.r0, by simp⟩ (fun q hq => he' q (fun x hx => by rw [List.mem_singleton] at hx; subst hx; exact hq (.inv r (rowsIO E CI [l] none)) (by simp) (by simp [NEnt.name, hrne]))) (fun z hz => by
      simp only [List.mem_singleton] at hz; subst hz; exact .inr hrV)
  · simp only [List.mem_singleton] at hz;subst hz;refine ⟨[env m], O' r, fun q b => q = 0 ∧ O m b, rfl, hrow, fun b hb => .inl hb, fun q b hq => ⟨.inr hq.2, fun h => by have := hnew b h; have := hold b hq.2; omega⟩, fun q q' b hne hq hq' => hne (hq.1.trans hq'.1.symm), fun q u2 y2 hu2 hy2 _ => ?_⟩
    cases q with
    | succ q => simp at hu2
    | zero =>
      simp only [List.getElem?_cons_zero, Option.some.injEq] at hu2 hy2;subst hu2; subst hy2;have h7 : (NEnt.inv m (CI l)).holds env W' (O m) R' := NEnt.holds_keep (fun b hb => hkeep.block b (hold b hb) id) (fun b hb => ⟨hst'.r0 b hb, hkeep.block b (hst.ro b hb).1 id⟩) hrw;have e2 : (fun b => 0 = 0 ∧ O m b) = O m := by funext b; simp
      show (CI l).ok W' (fun b => 0 = 0 ∧ O m b) R' (env m);rw [e2];exact h7
  · rcases hb with hb | hb
    · simp only [List.mem_singleton] at hz;obtain ⟨q1, q2, q3⟩ := hst'.own _ (List.mem_singleton.2 rfl) b hb;exact ⟨q1, .inl (hnew b hb), q3⟩
    · exact ⟨Nat.lt_of_lt_of_le (hold b hb) hkeep.size, .inr hb, hRR b hb⟩
  · simp only [List.mem_singleton] at hz hz2;subst hz; subst hz2; exact hne rfl
  · obtain ⟨q1, q2⟩ := hst'.ro b hb;exact ⟨q1, q2.imp id (fun h => h.imp id fun h => h.elim)⟩
theorem ts_appendIO {X : Type} {T E bytes n p N N2 : Nat} (r : Nat) {x y : Operand} {CI : X → Inv} {xs ys zs : List X} (ho : o.op = .call { callee := .builtin .append, args := #[x, y], argTypes := #[T, T] })
    (hx : rho s x = some (.ref n)) (hy : rho s y = some (.ref p)) (hnm : (p == n) = false) (hT : SlT P T E 1 bytes) (hl1 : xs.length = N) (hl2 : ys.length = N2) (hroom : room bytes (N + N2) = true) (hz : xs ++ ys = zs) (hrn : (r == n) = false) (hrp : (r == p) = false) :
    TSpec P o (rho s) [.inv n (rowsIO E CI xs none), .inv p (rowsIO E CI ys none)] [] (.ref r) [.inv r (rowsIO E CI zs none)] := by
  subst hl1; subst hl2; subst hz;intro evl c env W0 W O R he hst ht hnd hnn;have hn := ht (.inv n (rowsIO E CI xs none)) (by simp);have hp := ht (.inv p (rowsIO E CI ys none)) (by simp);have hpn : p ≠ n := by simpa using hnm
  have hrn' : r ≠ n := by simpa using hrn
  have hrp' : r ≠ p := by simpa using hrp
  have hrV : hasV r W0 = false := by
    rcases hnn (.inv r (rowsIO E CI (xs ++ ys) none)) (by simp) with h | h
    · simp [NEnt.name, hrn', hrp'] at h
    · exact h
  obtain ⟨us, Oo, Os, h1, h2, h3, h4, h5, h6⟩ := hst.holds _ hn;obtain ⟨us2, Oo2, Os2, k1, k2, k3, k4, k5, k6⟩ := hst.holds _ hp;simp only [NEnt.name] at h2 h3 h4 k2 k3 k4;have hap : ∀ b, O n b → O p b → False := fun b hb hb2 => hst.apart _ hn _ hp (by simp [NEnt.name, Ne.symm hpn]) b ⟨hb, hb2⟩
  classical
  have hA : St ⟨W, fun b => Oo b ∨ Oo2 b, R⟩ env [.row n E 1 (us.map fun u => [D.v u]), .row p E 1 (us2.map fun u => [D.v u])] W (fun q b => if q = n then Oo b else Oo2 b) R := by
    refine ⟨Keep.refl _ _, fun z hz => ?_, fun z hz b hb => ?_, fun z hz z2 hz2 hne b hb => ?_, fun b hb => ⟨(hst.ro b hb).1, .inr (.inl hb)⟩, fun _ hb => hb, by simp [NEnt.name, Ne.symm hpn]⟩
    · simp only [List.mem_cons, List.not_mem_nil, or_false] at hz;rcases hz with rfl | rfl
      · simp only [NEnt.name, if_true]; exact h2
      · simp only [NEnt.name, hpn, if_false]; exact k2
    · simp only [List.mem_cons, List.not_mem_nil, or_false] at hz;rcases hz with rfl | rfl
      · simp only [NEnt.name, if_true] at hb;obtain ⟨q1, q2, q3⟩ := hst.own _ hn b (h3 b hb); exact ⟨q1, .inr (.inl hb), q3⟩
      · simp only [NEnt.name, hpn, if_false] at hb;obtain ⟨q1, q2, q3⟩ := hst.own _ hp b (k3 b hb); exact ⟨q1, .inr (.inr hb), q3⟩
    · simp only [List.mem_cons, List.not_mem_nil, or_false] at hz hz2;rcases hz with rfl | rfl <;> rcases hz2 with rfl | rfl
      · exact hne rfl
      · simp only [NEnt.name, hpn, if_false, if_true] at hb; exact hap b (h3 b hb.1) (k3 b hb.2)
      · simp only [NEnt.name, hpn, if_false, if_true] at hb; exact hap b (h3 b hb.2) (k3 b hb.1)
      · exact hne rfl
  have hcore := ts_append (P := P) (s := s) (o := o) (N := us.length) (N2 := us2.length) r ho hx hy (els := us.map fun u => [D.v u]) (els2 := us2.map fun u => [D.v u]) (ym := .row p E 1 (us2.map fun u => [D.v u])) isOwn hnm hT (List.length_map _) (List.length_map _) (by rw [h1, k1]; exact hroom) rfl hrn evl _ env _ W _ R he hA (by simp) (by simp) (fun z hz => by
    rw [List.mem_singleton] at hz; subst hz;refine .inr ?_;simp [hasV, NEnt.has, NEnt.name, Ne.symm hrn', Ne.symm hrp'])
  refine hcore.mono ?_
  rintro u W' ⟨env', O', R', he', hu, hB⟩
  have hkeep := hB.keep;have hrm : NEnt.row r E 1 ((us.map fun u => [D.v u]) ++ (us2.map fun u => [D.v u])) ∈ [NEnt.row r E 1 ((us.map fun u => [D.v u]) ++ (us2.map fun u => [D.v u]))] ++ delV ([NEnt.row n E 1 (us.map fun u => [D.v u])].map NEnt.name) [.row n E 1 (us.map fun u => [D.v u]), .row p E 1 (us2.map fun u => [D.v u])] := by simp
  have hrow := hB.holds _ hrm;rw [← List.map_append] at hrow;have hown := hB.own _ hrm;simp only [NEnt.name] at hrow hown;have hM : ∀ b, Oo b ∨ Oo2 b → O n b ∨ O p b := fun b hb => hb.imp (h3 b) (k3 b)
  have hOn : ∀ b, O n b → b < W.heap.size := fun b hb => (hst.own _ hn b hb).1
  have hOp : ∀ b, O p b → b < W.heap.size := fun b hb => (hst.own _ hp b hb).1
  have hnotM : ∀ j b, Os j b → ¬ (Oo b ∨ Oo2 b) := fun j b hb h => h.elim (h4 j b hb).2 fun h => hap b (h4 j b hb).1 (k3 b h)
  have hnotM2 : ∀ j b, Os2 j b → ¬ (Oo b ∨ Oo2 b) := fun j b hb h => h.elim (fun h => hap b (h3 b h) (k4 j b hb).1) (k4 j b hb).2
  have hkR : ∀ b, R b → R' b ∧ W'.heap[b]? = W.heap[b]? := fun b hb => ⟨hB.r0 b hb, hkeep.block b (hst.ro b hb).1 fun h => h.elim (fun h => (hst.own _ hn b (h3 b h)).2.2 hb) (fun h => (hst.own _ hp b (k3 b h)).2.2 hb)⟩
  have hnR : ∀ b, b < W.heap.size → ¬ R b → ¬ (Oo b ∨ Oo2 b) → ¬ R' b := fun b hb hr hm h => by
    rcases (hB.ro b h).2 with h2 | h2 | h2
    · exact absurd ‹b < W.heap.size› (Nat.not_lt.2 h2)
    · exact hr h2
    · exact hm h2
  have hOr : ∀ b, O' r b → W.heap.size ≤ b ∨ Oo b ∨ Oo2 b := fun b hb => (hown b hb).2.1
  have hc : ∀ q, (∀ z ∈ [NEnt.inv r (rowsIO E CI (xs ++ ys) none)], z.name ∉ [NEnt.inv n (rowsIO E CI xs none), NEnt.inv p (rowsIO E CI ys none)].map NEnt.name → z.name ≠ q) → env' q = env q := fun q hq => he' q (fun x hx hx2 => by
    rw [List.mem_singleton] at hx; subst hx;exact hq (.inv r (rowsIO E CI (xs ++ ys) none)) (by simp) (by simp [NEnt.name, hrn', hrp']))
  suffices hs : ∃ O2, St c env' ([NEnt.inv r (rowsIO E CI (xs ++ ys) none)] ++ delV ([NEnt.inv n (rowsIO E CI xs none), NEnt.inv p (rowsIO E CI ys none)].map NEnt.name) W0) W' O2 R' by
    obtain ⟨O2, h⟩ := hs;exact ⟨env', O2, R', hc, hu, h⟩
  refine hst.over (take := [NEnt.inv n (rowsIO E CI xs none), NEnt.inv p (rowsIO E CI ys none)]) (M1 := fun b => O n b ∨ O p b) (env' := env') (news := [.inv r (rowsIO E CI (xs ++ ys) none)]) (W' := W') (R' := R')
    (O' := fun _ b => O' r b ∨ (∃ j, Os j b) ∨ ∃ j, Os2 j b) ht (fun b hb => hb.elim (fun h => ⟨NEnt.inv n (rowsIO E CI xs none), by simp, h⟩) (fun h => ⟨NEnt.inv p (rowsIO E CI ys none), by simp, h⟩)) ⟨⟨hkeep.os, hkeep.tape, hkeep.output, hkeep.size, fun b hb hn => hkeep.block b hb fun h => hn (hM b h)⟩, fun z hz => ?_, fun z hz b hb => ?_, fun z hz z2 hz2 hne b hb => ?_, fun b hb => ?_, hB.r0, by simp⟩ hc (fun z hz => by
      simp only [List.mem_singleton] at hz; subst hz; exact .inr hrV)
  · simp only [List.mem_singleton] at hz;subst hz;refine ⟨us ++ us2, O' r, fun q b => if q < us.length then Os q b else Os2 (q - us.length) b, by simp [h1, k1], hrow, fun b hb => .inl hb, fun q b hq => ?_, fun q q' b hne hq hq' => ?_, fun q u2 y2 hu2 hy2 _ => ?_⟩
    · dsimp only at hq
      split at hq
      · exact ⟨.inr (.inl ⟨_, hq⟩), fun h => (hOr b h).elim (fun h => by have := hOn b (h4 _ b hq).1; omega) (hnotM _ b hq)⟩
      · exact ⟨.inr (.inr ⟨_, hq⟩), fun h => (hOr b h).elim (fun h => by have := hOp b (k4 _ b hq).1; omega) (hnotM2 _ b hq)⟩
    · dsimp only at hq hq'
      split at hq <;> split at hq'
      · exact h5 q q' b hne hq hq'
      · exact hap b (h4 _ b hq).1 (k4 _ b hq').1
      · exact hap b (h4 _ b hq').1 (k4 _ b hq).1
      · exact k5 _ _ b (by omega) hq hq'
    · by_cases e : q < us.length
      · rw [List.getElem?_append_left e] at hu2;rw [List.getElem?_append_left (by omega)] at hy2;have h7 := h6 q u2 y2 hu2 hy2 (by simp);have h8 : (CI y2).ok W' (Os q) R' u2 := (CI y2).keep _ _ _ _ _ (fun b hb => hkeep.block b (hOn b (h4 q b hb).1) (hnotM q b hb)) hkR _ h7;have e2 : (fun b => if q < us.length then Os q b else Os2 (q - us.length) b) = Os q := by funext b; rw [if_pos e]
        show (CI y2).ok W' (fun b => if q < us.length then Os q b else Os2 (q - us.length) b) R' u2;rw [e2]; exact h8
      · rw [List.getElem?_append_right (by omega)] at hu2;rw [List.getElem?_append_right (by omega), ← h1] at hy2;have h7 := k6 (q - us.length) u2 y2 hu2 hy2 (by simp);have h8 : (CI y2).ok W' (Os2 (q - us.length)) R' u2 := (CI y2).keep _ _ _ _ _ (fun b hb => hkeep.block b (hOp b (k4 _ b hb).1) (hnotM2 _ b hb)) hkR _ h7;have e2 : (fun b => if q < us.length then Os q b else Os2 (q - us.length) b) = Os2 (q - us.length) := by funext b; rw [if_neg e]
        show (CI y2).ok W' (fun b => if q < us.length then Os q b else Os2 (q - us.length) b) R' u2;rw [e2]; exact h8
  · rcases hb with hb | ⟨j, hb⟩ | ⟨j, hb⟩
    · obtain ⟨q1, q2, q3⟩ := hown b hb;exact ⟨q1, q2.imp id (hM b), q3⟩
    · have h7 := (h4 j b hb).1;obtain ⟨q1, q2, q3⟩ := hst.own _ hn b h7;exact ⟨Nat.lt_of_lt_of_le q1 hkeep.size, .inr (.inl h7), hnR b q1 q3 (hnotM j b hb)⟩
    · have h7 := (k4 j b hb).1;obtain ⟨q1, q2, q3⟩ := hst.own _ hp b h7;exact ⟨Nat.lt_of_lt_of_le q1 hkeep.size, .inr (.inr h7), hnR b q1 q3 (hnotM2 j b hb)⟩
  · simp only [List.mem_singleton] at hz hz2;subst hz; subst hz2; exact hne rfl
  · obtain ⟨q1, q2⟩ := hB.ro b hb;exact ⟨q1, q2.imp id (fun h => h.imp id (hM b))⟩
end
end Go.Proofs.Ytjmkjlhnipnkcaa.Sy
end
section
set_option linter.unusedSimpArgs false
set_option linter.unusedVariables false
namespace Go.Proofs.Ytjmkjlhnipnkcaa.Sy
open Go.RowKit
theorem mapI_one {κ ν : Type} {ek : κ → Value} {ag : Bool} {ev : ν → List D} {xs : List (κ × ν)} (W : World) (O R : Nat → Prop) (v : Value) (h : (mapI ek ag ev xs).ok W O R v) : v.oneCell' = true := by
  obtain ⟨r, cl, es, ys, h1, _⟩ := h;subst h1; rfl
section
variable {P : Program} {o : Oper} {ρ : Operand → Option AV}
theorem sp_loadRD {T n i k : Nat} (m : Nat) {x : Operand} {els : List (List D)} {d : D} (ho : o.op = .load T x) (hx : ρ x = some (.cell n k)) (hT : VarT P T 1 false) (hk : k = i * 1) (he : els[i]? = some [d]) : OpSpec P o ρ [.ro n 1 els] (.ref m) [.any m d] := by
  intro ev env W O R hev hn _ hR;obtain ⟨ad, cap, h1, h2, h3, h4, h5⟩ := row_read isRo (hn _ (List.mem_singleton.2 rfl));obtain ⟨b, off, ha, _, u, hu, hok, hone⟩ := (h5 i _ he).2 0 d rfl;subst ha;have hx' := hev x _ hx;simp only [AV.den, cellAt_eq h1, hk, Nat.mul_one] at hx';have hu' : W.cell? ⟨b, off + i, none⟩ = some u := by simpa using hu
  have : (execOp ev o).run P W = .ok (.value u) W := by
    simp [execOp, ho, hx', Instr.loadAt, Instr.sureAddr, loadVar, hT.isAgg, hu']
  rw [this];refine ⟨setEnv env m u, _, R, fun q hq => setEnv_other (hq _ (List.mem_singleton.2 rfl)), by simp [AV.den, setEnv_same, oneOf_of_one hone], St.roNews hR (fun z hz => ?_) (by simp)⟩;rw [List.mem_singleton] at hz;subst hz;intro O';simp only [NEnt.holds, setEnv_same];exact hok
end
def mitM {κ ν : Type} (ek : κ → Value) (ag : Bool) (ev : ν → List D) (u : Value) (xs left : List (κ × ν)) (cur : Option (κ × ν)) : Inv :=
  ⟨fun W O R v => ∃ (it m : Nat) (seen : Array Nat) (cl : Nat) (es : Array MapEntry) (zs ys : List (κ × ν)), v = .pointer (some ⟨it, 0, none⟩) ∧ u = .map (some m) ∧ O it ∧ O m ∧ it ≠ m ∧ W.heap[it]? = some (.mapIter (some m) cl seen cl) ∧ W.heap[m]? = some (.map es cl) ∧ EsOk ek ag ev W R es.toList zs ∧ MapOk es.toList cl zs xs ∧
      EsOk ek ag ev W R (unseen es seen) ys ∧ ys.Perm left ∧ ∀ x, cur = some x → ∃ e, seen.back? = some e.born ∧ e ∈ es.toList ∧ e.key = ek x.1 ∧ VOk ag (ev x.2) W R e.val,
   fun W W' O R R' hO hR v ⟨it, m, seen, cl, es, zs, ys, h1, h2, h3, h4, h5, h6, h7, h8, h9, h10, h11, h12⟩ => ⟨it, m, seen, cl, es, zs, ys, h1, h2, h3, h4, h5, (hO it h3).trans h6, (hO m h4).trans h7, h8.keep hR, h9, h10.keep hR, h11,
      fun x hx => by obtain ⟨e, g1, g2, g3, g4⟩ := h12 x hx; exact ⟨e, g1, g2, g3, g4.keep hR⟩⟩⟩
section
variable {P : Program} {o : Oper} {ρ : Operand → Option AV}
theorem sp_entryM {κ ν : Type} {n : Nat} {u0 : Value} {x : Operand} {ek : κ → Value} {ag : Bool} {ev : ν → List D} {xs left : List (κ × ν)} {c : κ × ν} {ka va : AV} {as_ : List AV} {ns : List NEnt} (ho : o.op = .entry x) (hx : ρ x = some (.ref n)) (hka : ∀ e, ka.den e = ek c.1)
    (hd : DAL (ev c.2) as_ ns) (hns : nodupB (ns.map NEnt.name) = true) (hv : va = if ag then .agg as_ else as_.headD (.val undef)) : OpSpec P o ρ [.inv n (mitM ek ag ev u0 xs left (some c))] (.tup [ka, va]) ns := by
  intro evl env W O R he hn _ hR;obtain ⟨it, m, seen, cl, es, zs, ys, h1, _, _, _, _, h3, h5, _, hmo, h7, h8, h9⟩ := hn _ (List.mem_singleton.2 rfl);have h6 := hmo.2.2;obtain ⟨e, g1, g2, g3, g4⟩ := h9 _ rfl;have hx' := he x _ hx;simp only [AV.den, NEnt.name] at hx' h1;simp only [h1, oneOf] at hx';have hg1 : (getObj it).run P W = .ok (.mapIter (some m) cl seen cl) W := by simp [getObj, Sem.run, h3]
  have hg2 : (getObj m).run P W = .ok (.map es cl) W := by simp [getObj, Sem.run, h5]
  have hf : es.find? (fun x => x.born == e.born) = some e := by rw [← Array.find?_toList]; exact find_born h6.1 g2
  have : (execOp evl o).run P W = .ok (.value (.tuple #[e.key, e.val])) W := by
    simp [execOp, ho, hx', Instr.entry, hg1, hg2, g1, hf]
  rw [this];obtain ⟨cs, hc1, hc2, hc3, hc4⟩ := g4;obtain ⟨env', e1, e2, e3⟩ := hd.ok env W R cs (by omega) (fun j d hj => by obtain ⟨u, g1, g2, _⟩ := hc4 j d hj; exact ⟨u, g1, g2⟩) (nodup_of_B hns);refine ⟨env', _, R, e1, ?_, St.roNews hR e3 (nodup_of_B hns)⟩;have hu' : va.den env' = e.val := by
    subst hv;rw [hc2];cases ag
    · cases as_ with
      | nil => simp only [AV.denL] at e2; subst e2; rfl
      | cons a l => simp only [AV.denL] at e2; subst e2; rfl
    · simp only [if_true, AV.den, e2]
  simp only [AV.den, AV.denL, hu', hka, g3]
end
theorem filter_erase {α : Type} {p : α → Bool} : ∀ {l : List α} {j : Nat} {x : α}, l[j]? = some x → p x = false → (l.eraseIdx j).filter p = l.filter p := by
  intro l
  induction l with
  | nil => intro j x h _; simp at h
  | cons a l ih =>
    intro j x h hp
    cases j with
    | zero => simp at h; subst h; simp [hp]
    | succ j =>
      simp at h;simp only [List.eraseIdx_cons_succ, List.filter_cons, ih h hp]
section
variable {P : Program} {c : Ctx} {sz : Fm} {Q : Exit → Act → World → Prop} {t : List Item} {s : List (Nat × AV)} {V : List NEnt} {ops : Array Oper} {rest : List Oper} {o o1 o2 : Oper}
theorem ts_rangeM {κ ν : Type} {M K Vt m g : Nat} (n : Nat) {u : Value} {x : Operand} {ek : κ → Value} {ag : Bool} {ev : ν → List D} {xs : List (κ × ν)} (ho : o.op = .range M x) (hx : rho s x = some (.ref m)) (hM : P.underlying M = some (.map K Vt)) (hnm : (n == m) = false) :
    TSpec P o (rho s) [.inv m (mapI ek ag ev xs)] [.pin g m u] (.ref n) [.inv n (mitM ek ag ev u xs xs none)] := by
  intro evl c env W0 W O R he hst ht hnd hnn;have hm := ht _ (List.mem_singleton.2 rfl);have hpin : env m = u := hst.holds _ (hnd _ (List.mem_singleton.2 rfl));have hne : n ≠ m := by simpa using hnm
  have hnV : hasV n W0 = false := by
    rcases hnn (.inv n (mitM ek ag ev u xs xs none)) (by simp) with h | h
    · simp [NEnt.name, hne] at h
    · exact h
  obtain ⟨r, cl, es, ys, h1, hOr, h2, h3, h4⟩ := hst.holds _ hm;have hx' := he x _ hx;simp only [AV.den, NEnt.name] at hx' h1 hOr;simp only [h1, oneOf] at hx';have : (execOp evl o).run P W = .ok (.value (.pointer (some ⟨W.heap.size, 0, none⟩))) (W.alloc (.mapIter (some r) cl #[] cl)) := by
    simp [execOp, ho, hx', Instr.range, run_underlying hM, getObj_map h2, run_newObj_alloc]
  rw [this];have hlt : r < W.heap.size := (Array.getElem?_eq_some_iff.1 h2).1;have hka := keep_alloc W (.mapIter (some r) cl #[] cl);have hk : ∀ b, R b → R b ∧ (W.alloc (.mapIter (some r) cl #[] cl)).heap[b]? = W.heap[b]? := fun b hb => ⟨hb, Below.heap_alloc _ _ _ (hst.ro b hb).1⟩
  have hszl : W.heap.size < (W.alloc (.mapIter (some r) cl #[] cl)).heap.size := by show _ < (Array.push W.heap _).size; rw [Array.size_push]; exact Nat.lt_succ_self _
  suffices hs : ∃ O2, St c (setEnv env n (.pointer (some ⟨W.heap.size, 0, none⟩))) ([NEnt.inv n (mitM ek ag ev u xs xs none)] ++ delV ([NEnt.inv m (mapI ek ag ev xs)].map NEnt.name) W0) (W.alloc (.mapIter (some r) cl #[] cl)) O2 R by
    obtain ⟨O2, h⟩ := hs;exact ⟨_, O2, R, fun q hq => setEnv_other (hq _ (List.mem_singleton.2 rfl) (by simp [NEnt.name, hne])), by simp [AV.den, NEnt.name, setEnv_same, oneOf], h⟩
  refine hst.over (take := [NEnt.inv m (mapI ek ag ev xs)]) (M1 := fun b => O m b) (env' := setEnv env n (.pointer (some ⟨W.heap.size, 0, none⟩))) (news := [.inv n (mitM ek ag ev u xs xs none)]) (W' := W.alloc (.mapIter (some r) cl #[] cl)) (R' := R)
    (O' := fun _ b => O m b ∨ b = W.heap.size) ht (fun b hb => ⟨NEnt.inv m (mapI ek ag ev xs), by simp, hb⟩) ⟨⟨hka.os, hka.tape, hka.output, hka.size, fun b hb hn => hka.block b hb id⟩, fun z hz => ?_, fun z hz b hb => ?_, fun z hz z2 hz2 hne b hb => ?_, fun b hb => ⟨Nat.lt_trans (hst.ro b hb).1 hszl, .inr (.inl hb)⟩, fun _ h => h, by simp⟩ (fun q hq => setEnv_other (hq (.inv n (mitM ek ag ev u xs xs none)) (by simp) (by simp [NEnt.name, hne]))) (fun z hz => by
      simp only [List.mem_singleton] at hz; subst hz; exact .inr hnV)
  · simp only [List.mem_singleton] at hz;subst hz;simp only [NEnt.holds, NEnt.name, setEnv_same];have hun : unseen es #[] = es.toList := by simp [unseen]
    refine ⟨_, r, #[], cl, es, ys, ys, rfl, by rw [← hpin]; exact h1, .inr rfl, .inl hOr, by omega, World.alloc_heap_new W _, (Below.heap_alloc _ _ _ hlt).trans h2, h3.keep hk, h4, ?_, h4.1, fun x hx => by cases hx⟩;rw [hun]; exact h3.keep hk
  · simp only [List.mem_singleton] at hz;subst hz;rcases hb with hb | hb
    · obtain ⟨q1, q2, q3⟩ := hst.own _ hm b hb;exact ⟨Nat.lt_trans q1 hszl, .inr hb, q3⟩
    · subst hb;exact ⟨hszl, .inl (Nat.le_refl _), fun h => Nat.lt_irrefl _ (hst.ro _ h).1⟩
  · simp only [List.mem_singleton] at hz hz2;subst hz; subst hz2; exact hne rfl
theorem TL.nextM {κ ν : Type} {n it d1 d2 : Nat} {ek : κ → Value} {ag : Bool} {ev : ν → List D} {u0 : Value} {xs left : List (κ × ν)} {cur : Option (κ × ν)} (i : Nat) (hi : V[i]? = some (.inv n (mitM ek ag ev u0 xs left cur))) (ho1 : o1.op = .next (.tmp it) false) (hg1 : o1.guard = none) (hd1 : o1.dst = some d1)
    (hx : look s it = some (.ref n)) (ho2 : o2.op = .extract (.tmp d1) 0) (hg2 : o2.guard = none) (hd2 : o2.dst = some d2) (hn : look s d1 = none) (hl1 : Nat.blt d1 sz.sz = true) (hl2 : Nat.blt d2 sz.sz = true)
    (h0 : left = [] → TL P c sz Q ops rest t ((d2, .val (.bool false)) :: s) V)
    (h1 : ∀ (j : Nat) (hj : j < left.length), TL P c sz Q ops rest t ((d2, .val (.bool true)) :: s) (V.set i (.inv n (mitM ek ag ev u0 xs (left.eraseIdx j) (some left[j]))))) :
    TL P c sz Q ops (o1 :: o2 :: rest) t s V := by
  intro env tm W O R hfr hst;rw [Nat.blt_eq] at hl1 hl2;have hm := List.mem_of_getElem? hi;obtain ⟨itb, m, seen, cl, es, zs, ys, e1, eu, hO, hOm, hne, g1, g2, hz, hmo, hes, hp, hc⟩ := hst.holds _ hm;have hb := hmo.2.2;have hxe : (Act.eval ⟨tm, sz.df⟩ (.tmp it)) = .pointer (some ⟨itb, 0, none⟩) := by
    have := rho_eval (df := sz.df) hfr (x := .tmp it) hx;simp only [AV.den, NEnt.name] at this e1
    simpa [e1, oneOf] using this
  have hw1 : Wanted ops s o1 := by simp only [Wanted, hg1]
  have hw2 : Wanted ops s o2 := by simp only [Wanted, hg2]
  unfold wpListIn;rw [if_pos (wanted_of hfr hw1)];refine Does.inn (K := fun u W' => ∃ b, ((∃ k v, u = .tuple #[.bool true, k, v]) ∨ u = .tuple #[.bool false]) ∧ (b = true ↔ ∃ k v, u = .tuple #[.bool true, k, v]) ∧
      ((left = [] ∧ b = false ∧ St c env V W' O R) ∨ ∃ (j : Nat) (hj : j < left.length), b = true ∧ St c env (V.set i (.inv n (mitM ek ag ev u0 xs (left.eraseIdx j) (some left[j])))) W' O R)) ?_ ?_
  · have hrun : ∀ u W', (Instr.next (.pointer (some ⟨itb, 0, none⟩)) false o1.type).run P W = .ok u W' → (execOp (Act.eval ⟨tm, sz.df⟩) o1).run P W = .ok (.value u) W' := by
      intro u W' h;simp only [execOp, ho1, hxe, Sem.run_bind, h, Result.andThen_ok, Sem.run_pure]
    obtain ⟨d, hd | ⟨j, hj, hd⟩⟩ := run_nextMap (P := P) (T := o1.type) g1 g2 hb
    · rw [hrun _ _ hd.2];refine ⟨false, .inr rfl, ⟨fun h => (by cases h), fun ⟨k, v, h⟩ => by simp at h⟩, .inl ⟨?_, rfl, hst.drawn d⟩⟩;have h2 := hes.len;rw [hd.1] at h2;exact List.eq_nil_of_length_eq_zero (by rw [← hp.length_eq]; simpa using h2.symm)
    · rw [hrun _ _ hd];have hjy : j < ys.length := by rw [← hes.len]; exact hj
      obtain ⟨i', hi', ex, pe⟩ := perm_idx hp hjy;refine ⟨true, .inl ⟨_, _, rfl⟩, ⟨fun _ => ⟨_, _, rfl⟩, fun _ => rfl⟩, .inr ⟨i', hi', rfl, ?_⟩⟩;have hst' := hst.drawn d;have hlt : itb < (drawnW W d).heap.size := (Array.getElem?_eq_some_iff.1 g1).1;have hRn : ∀ b, R b → b ≠ itb := fun b hb e => (hst.own _ hm itb hO).2.2 (e ▸ hb)
      refine hst'.write i hi ⟨rfl, rfl, rfl, by simp, fun b _ hb => World.putObj_heap_other fun e => hb (e ▸ hO)⟩ rfl ?_;obtain ⟨e, he, hk, hv⟩ := hes.at (i := j) (x := ys[j]) (List.getElem?_eq_getElem hjy);have hkeep : ∀ b, R b → R b ∧ ((drawnW W d).putObj itb (.mapIter (some m) cl (seen.push ((unseen es seen)[j]).born) cl)).heap[b]? = W.heap[b]? := fun b hb => ⟨hb, World.putObj_heap_other (hRn b hb)⟩
      have hej : (unseen es seen)[j] = e := by rw [List.getElem?_eq_getElem hj] at he; exact Option.some.inj he
      refine ⟨itb, m, _, cl, es, zs, _, e1, eu, hO, hOm, hne, World.putObj_heap_same hlt, (World.putObj_heap_other (Ne.symm hne)).trans g2, hz.keep hkeep, hmo, ?_, pe, ?_⟩
      · rw [unseen_push hb.1 j hj];exact (hes.erase j).keep hkeep
      · intro x hx;cases hx;refine ⟨e, by rw [hej]; simp, ?_, by rw [ex]; exact hk, by rw [ex]; exact hv.keep hkeep⟩;rw [← hej];exact (List.mem_filter.1 (List.getElem_mem hj)).1
  rintro u W' ⟨b, hu, hbu, hcase⟩
  rw [hd1];have hfr1 : Fr env sz.sz s (tm.setIfInBounds d1 u) := hfr.putNone hn;have hge : (tm.setIfInBounds d1 u)[d1]? = some u := by rw [Array.getElem?_setIfInBounds, if_pos rfl, if_pos (by rw [hfr.1]; exact hl1)]
  have hu0 : ∃ cs : Array Value, u = .tuple cs ∧ cs[0]? = some (.bool b) := by
    rcases hu with ⟨k, v, rfl⟩ | rfl
    · have : b = true := hbu.2 ⟨_, _, rfl⟩;subst this; exact ⟨_, rfl, rfl⟩
    · cases b
      · exact ⟨_, rfl, rfl⟩
      · obtain ⟨k, v, h⟩ := hbu.1 rfl; simp at h
  obtain ⟨cs, hcs, hc0⟩ := hu0;show wpListIn (fw sz.ro) 0 P ops _ (o2 :: rest) ⟨tm.setIfInBounds d1 u, sz.df⟩ W';unfold wpListIn;rw [if_pos (wanted_of hfr1 hw2)];have hrun2 : (execOp (Act.eval ⟨tm.setIfInBounds d1 u, sz.df⟩) o2).run P W' = .ok (.value (.bool b)) W' := by
    have hg : (tm.setIfInBounds d1 u).getD d1 undef = u := by rw [Array.getD_eq_getD_getElem?, hge]; rfl
    simp only [execOp, ho2, Act.eval, hg, Instr.extract, Sem.run_bind];rw [hcs];simp only [hc0, Sem.run_pure, Result.andThen_ok]
  refine Does.inn (K := fun v w => v = .bool b ∧ w = W') ?_ ?_
  · rw [hrun2]; exact ⟨rfl, rfl⟩
  rintro v w ⟨rfl, rfl⟩
  rw [hd2];rcases hcase with ⟨hl, rfl, hs⟩ | ⟨j, hj, rfl, hs⟩
  · exact h0 hl env _ w O R (hfr1.put hl2 (a := .val (.bool false))) hs
  · exact h1 j hj env _ w O R (hfr1.put hl2 (a := .val (.bool true))) hs
theorem ts_deleteM {κ ν : Type} [BEq κ] [LawfulBEq κ] {M K Vt n m g : Nat} {u0 : Value} {x i : Operand} {ats : TypeId} {ek : κ → Value} {ag : Bool} {ev : ν → List D} {xs left : List (κ × ν)} {c0 : κ × ν} {ka : AV} {ys : List (κ × ν)} (ho : o.op = .call { callee := .builtin .delete, args := #[x, i], argTypes := #[M, ats] }) (hx : rho s x = some (.ref m)) (hi : rho s i = some ka) (hka : ∀ e, ka.den e = ek c0.1)
    (hk : MKey P M K Vt ek) (hinj : ∀ a b, ek a = ek b → a = b) (hys : mdel xs c0.1 = ys) : TSpec P o (rho s) [.inv n (mitM ek ag ev u0 xs left (some c0))] [.pin g m u0] (.tup []) [.inv n (mitM ek ag ev u0 ys left none)] := by
  subst hys;intro evl c env W0 W O R he hst ht hnd _;have hm := ht _ (List.mem_singleton.2 rfl);have hpin : env m = u0 := hst.holds _ (hnd _ (List.mem_singleton.2 rfl));obtain ⟨kk, hkk⟩ := List.mem_iff_getElem?.1 hm;obtain ⟨it, r, seen, cl, es, zs, ys, e1, eu, hO, hOr, hne, g1, h2, h3, hmo, hes, hpl, hc⟩ := hst.holds _ hm;obtain ⟨hp, hnd', hb⟩ := hmo;obtain ⟨e, q1, q2, q3, _⟩ := hc _ rfl;have hx' := he x _ hx;simp only [AV.den, hpin, eu, oneOf] at hx';have hi' := he i _ hi;rw [hka] at hi';have hf := hk.find c0.1 es.toList (zs.map (·.1)) W h3.keys;have hR' : ∀ b, R b → b ≠ r := fun b hb e => (hst.own _ hm r hOr).2.2 (e ▸ hb)
  have hlt : r < W.heap.size := (Array.getElem?_eq_some_iff.1 h2).1;obtain ⟨j, hj, hje⟩ := List.mem_iff_getElem.1 q2;have hjz : j < zs.length := by rw [← h3.len]; exact hj
  obtain ⟨e', he', hk', _⟩ := h3.at (i := j) (x := zs[j]) (List.getElem?_eq_getElem hjz);have hee : e' = e := by rw [List.getElem?_eq_getElem hj, hje] at he'; exact (Option.some.inj he').symm
  have hzk : zs[j].1 = c0.1 := hinj _ _ (by rw [← hk', hee, q3]);have hfi : (zs.map (·.1)).findIdx? (· == c0.1) = some j := by
    rw [List.findIdx?_eq_some_iff_getElem];refine ⟨by simpa using hjz, by simp [hzk], fun j' hj' => ?_⟩;simp only [List.getElem_map, Bool.not_eq_true, beq_eq_false_iff_ne, ne_eq];intro h;have hlt' : j' < (zs.map (·.1)).length := by simp; omega
    exact (List.pairwise_iff_getElem.1 hnd') j' j hlt' (by simpa using hjz) hj' (by simp [h, hzk])
  rw [hfi] at hf;have hej : es.toList[j]? = some e := by rw [List.getElem?_eq_getElem hj, hje]
  simp only [Option.bind_some, hej, Option.map_some] at hf;have hrun : (execOp evl o).run P W = .ok (.value (.tuple #[])) (W.putObj r (.map (es.eraseIdxIfInBounds j) cl)) := by
    simp only [execOp, ho, resolve, invoke, builtin, Builtin.delete_, hx', hi', Sem.run_bind, run_underlying hk.under, Result.andThen_ok, getObj_map h2, hk.check, hf, setObj_map _ h2, Sem.run_pure, List.map_toArray, List.map_cons, List.map_nil];simp [run_underlying hk.under, getObj_map h2, hk.check, hf, setObj_map _ h2]
  rw [hrun];have hkeep : ∀ b, R b → R b ∧ (W.putObj r (.map (es.eraseIdxIfInBounds j) cl)).heap[b]? = W.heap[b]? := fun b hb => ⟨hb, World.putObj_heap_other (hR' b hb)⟩
  refine ⟨env, O, R, fun _ _ => rfl, rfl, St.set_del hkk hst.names rfl (hst.write kk hkk ⟨rfl, rfl, rfl, by simp, fun b _ hb => World.putObj_heap_other fun e => hb (e ▸ hOr)⟩ rfl ?_)⟩;have hmd : mdel zs c0.1 = zs.eraseIdx j := by simp only [mdel, mfind, hfi]
  have hun : unseen (es.eraseIdxIfInBounds j) seen = unseen es seen := by
    simp only [unseen, Array.toList_eraseIdxIfInBounds];refine filter_erase hej ?_;have : e.born ∈ seen := by
      have := Array.back?_eq_getElem? (xs := seen);rw [q1] at this;exact Array.mem_of_getElem? this.symm
    simp [this]
  refine ⟨it, r, seen, cl, _, zs.eraseIdx j, ys, e1, eu, hO, hOr, hne, (World.putObj_heap_other hne).trans g1, World.putObj_heap_same hlt, ?_, ⟨by rw [← hmd]; exact mdel_perm hp hnd' c0.1, by rw [← hmd]; exact nodup_del hnd' c0.1, by rw [Array.toList_eraseIdxIfInBounds]; exact hb.erase j⟩, ?_, hpl, fun x hx => by cases hx⟩
  · rw [Array.toList_eraseIdxIfInBounds];exact (h3.erase j).keep hkeep
  · rw [hun]; exact hes.keep hkeep
theorem nextMS {κ ν : Type} {n it d1 d2 : Nat} {ek : κ → Value} {ag : Bool} {ev : ν → List D} {u0 : Value} {xs left : List (κ × ν)} {cur : Option (κ × ν)} (i : Nat) (hi : V[i]? = some (.inv n (mitM ek ag ev u0 xs left cur))) (ho1 : o1.op = .next (.tmp it) false) (hg1 : o1.guard = none) (hd1 : o1.dst = some d1)
    (hx : look s it = some (.ref n)) (ho2 : o2.op = .extract (.tmp d1) 0) (hg2 : o2.guard = none) (hd2 : o2.dst = some d2) (hn : look s d1 = none) (hl1 : Nat.blt d1 sz.sz = true) (hl2 : Nat.blt d2 sz.sz = true)
    (h0 : left = [] → TL P c sz Q ops rest t ((d2, .val (.bool false)) :: s) V)
    (h1 : ∀ (x : κ × ν) (l : List (κ × ν)), Sel left x l → TL P c sz Q ops rest t ((d2, .val (.bool true)) :: s) (V.set i (.inv n (mitM ek ag ev u0 xs l (some x))))) :
    TL P c sz Q ops (o1 :: o2 :: rest) t s V :=
  TL.nextM i hi ho1 hg1 hd1 hx ho2 hg2 hd2 hn hl1 hl2 h0 fun j hj => h1 _ _ ⟨j, hj, rfl, rfl⟩
theorem ts_insert {κ ν : Type} [BEq κ] [LawfulBEq κ] {M K Vt n : Nat} {x i y : Operand} {ek : κ → Value} {ag : Bool} {ev : ν → List D} {xs : List (κ × ν)} (k : κ) (d : ν) {ka va : AV} {ys : List (κ × ν)} {need : List NEnt} (ho : o.op = .insert M x i y) (hx : rho s x = some (.ref n)) (hi : rho s i = some ka) (hka : ∀ e, ka.den e = ek k) (hy : rho s y = some va)
    (hfl : va.flat = true) (hag : va.isAgg = ag) (had : ADL need va.cs (ev d)) (hk : MKey P M K Vt ek) (hys : (xs.map (·.1)).Nodup → ys.Perm (mput xs k d)) :
    TSpec P o (rho s) [.inv n (mapI ek ag ev xs)] need (.val undef) [.inv n (mapI ek ag ev ys)] := by
  have h := ts_mapUpdate (P := P) (s := s) (o := { o with op := .mapUpdate M x i y }) (need := need) k d rfl hx hi hka hy hfl hag had hk hys;intro evl c env W0 W O R;have e : execOp evl o = execOp evl { o with op := .mapUpdate M x i y } := by simp [execOp, ho]
  rw [e];exact h evl c env W0 W O R
theorem TC.forgetM {κ ν : Type} {n : Nat} {ek : κ → Value} {ag : Bool} {ev : ν → List D} {u0 : Value} {xs left : List (κ × ν)} {cur : Option (κ × ν)} (k : Nat) (hk : V[k]? = some (.inv n (mitM ek ag ev u0 xs left cur))) (h : TC P c sz Q t s (V.set k (.inv n (mitM ek ag ev u0 xs left none)))) : TC P c sz Q t s V :=
  fun env tm W O R hf hst => h env tm W O R hf (hst.weaken hk rfl fun O R ⟨it, m, seen, cl, es, zs, ys, h1, h2, h3, h4, h5, h6, h7, h8, h9, h10, h11, _⟩ => ⟨it, m, seen, cl, es, zs, ys, h1, h2, h3, h4, h5, h6, h7, h8, h9, h10, h11, fun x hx => by cases hx⟩)
theorem TL.endM {κ ν : Type} {n m g : Nat} {ek : κ → Value} {ag : Bool} {ev : ν → List D} {u0 : Value} {xs left : List (κ × ν)} {cur : Option (κ × ν)} (i j : Nat) (hi : V[i]? = some (.inv n (mitM ek ag ev u0 xs left cur))) (hj : V[j]? = some (.pin g m u0)) (hij : Nat.beq i j = false) (hn : ((V.map NEnt.name).contains m) = false)
    (h : TL P c sz Q ops rest t s (V.set i (.inv m (mapI ek ag ev xs)))) : TL P c sz Q ops rest t s V := by
  intro env tm W O R hfr hst;have hv := hst.holds _ (List.mem_of_getElem? hi);have hp : env m = u0 := hst.holds _ (List.mem_of_getElem? hj);obtain ⟨O2, h2⟩ := hst.rename (y := .inv m (mapI ek ag ev xs)) hi (fun h => by have h := List.contains_iff_mem.2 (show m ∈ V.map NEnt.name from h); rw [hn] at h; cases h) (by
    obtain ⟨it, r, seen, cl, es, zs, ys, h1, h2, h3, h4, h5, h6, h7, h8, h9, _⟩ := hv;exact ⟨r, cl, es, zs, by rw [hp]; exact h2, h4, h7, h8, h9⟩)
  exact h env tm W O2 R hfr h2
end
end Go.Proofs.Ytjmkjlhnipnkcaa.Sy
end
section
set_option linter.unusedSimpArgs false
set_option linter.unusedVariables false
namespace Go.Proofs.Ytjmkjlhnipnkcaa.Sy
open Go.RowKit Go.Deep Go.ChangeShapes Go.WideShapes
def OkL (w : World) : List Value → List D → Prop
  | [], [] => True
  | u :: us, d :: ds => (d.ok w (fun b => b < w.heap.size) u ∧ u.oneCell' = true) ∧ OkL w us ds
  | _, _ => False
theorem okL_cons {w : World} {cs : List Value} {d : D} {ds : List D} (h : OkL w cs (d :: ds)) : ∃ u us, cs = u :: us ∧ d.ok w (fun b => b < w.heap.size) u ∧ OkL w us ds := by
  cases cs with
  | nil => exact h.elim
  | cons u us => exact ⟨u, us, rfl, h.1.1, h.2⟩
theorem okL_nil {w : World} {cs : List Value} (h : OkL w cs []) : cs = [] := by
  cases cs with
  | nil => rfl
  | cons u us => exact h.elim
theorem OkL.append {w : World} : ∀ {cs : List Value} {ds : List D} {cs' : List Value} {ds' : List D}, OkL w cs ds → OkL w cs' ds' → OkL w (cs ++ cs') (ds ++ ds') := by
  intro cs
  induction cs with
  | nil => intro ds cs' ds' h k; cases ds with
    | nil => exact k
    | cons d ds => exact h.elim
  | cons u us ih => intro ds cs' ds' h k; cases ds with
    | nil => exact h.elim
    | cons d ds => exact ⟨h.1, ih h.2 k⟩
theorem OkL.len {w : World} : ∀ {cs : List Value} {ds : List D}, OkL w cs ds → cs.length = ds.length := by
  intro cs
  induction cs with
  | nil => intro ds h; cases ds with
    | nil => rfl
    | cons d ds => exact h.elim
  | cons u us ih => intro ds h; cases ds with
    | nil => exact h.elim
    | cons d ds => simp [ih h.2]
theorem OkL.at {w : World} : ∀ {cs : List Value} {ds : List D}, OkL w cs ds → ∀ (j : Nat) (d : D), ds[j]? = some d → ∃ u : Value, cs[j]? = some u ∧ d.ok w (fun b => b < w.heap.size) u ∧ u.oneCell' = true := by
  intro cs
  induction cs with
  | nil => intro ds h j d hd; cases ds with
    | nil => simp at hd
    | cons d ds => exact h.elim
  | cons u us ih => intro ds h j d hd; cases ds with
    | nil => exact h.elim
    | cons d0 ds => cases j with
      | zero => simp at hd; subst hd; exact ⟨u, rfl, h.1⟩
      | succ j => obtain ⟨u', h1, h2⟩ := ih h.2 j d (by simpa using hd); exact ⟨u', by simpa using h1, h2⟩
def Opens (P : Program) (T : TypeId) (size : Nat) {α : Type} (en : α → List D) (wf : α → Prop) : Prop :=
  P.cellsOf T = size ∧ ∀ {H : Type} (enc : TypeId × Value → H) (w : World) (base : Nat) (spare : Nat → Bool) (held : Bool) (n : Nat) (cs : List Value) (x : DataW H × List MemPlace),
    DataW.trod enc P w base spare held n T cs = some x → ∃ a, wf a ∧ OkL w cs (en a)
theorem Opens.map {P : Program} {T : TypeId} {size : Nat} {α β : Type} {en : α → List D} {wf : α → Prop} (h : Opens P T size en wf) (f : α → β) {en' : β → List D} {wf' : β → Prop} (he : ∀ a, en a = en' (f a)) (hw : ∀ a, wf a → wf' (f a)) : Opens P T size en' wf' :=
  ⟨h.1, fun enc w base spare held n cs x hx => by
    obtain ⟨a, h1, h2⟩ := h.2 enc w base spare held n cs x hx;exact ⟨f a, hw a h1, by rw [← he]; exact h2⟩⟩
theorem opens_int {P : Program} {T : TypeId} {k : IntKind} (hu : P.underlying T = some (.int k)) (hc : P.cellsOf T = 1) : Opens P T 1 (fun z : Int => [D.v (.int k z)]) (fun z => (Lit.int k z).wf = true) := by
  refine ⟨hc, fun enc w base spare held n cs x hx => ?_⟩;obtain ⟨z, rfl, _, hw⟩ := DataW.trod_int hu hx;exact ⟨z, hw, ⟨rfl, rfl⟩, trivial⟩
theorem choose_list {β : Type} {p : Nat → β → Prop} : ∀ n : Nat, (∀ i, i < n → ∃ q, p i q) → ∃ l : List β, l.length = n ∧ ∀ i q, l[i]? = some q → p i q := by
  intro n
  induction n with
  | zero => intro _; exact ⟨[], rfl, by simp⟩
  | succ n ih =>
    intro h;obtain ⟨l, h1, h2⟩ := ih fun i hi => h i (by omega)
    obtain ⟨q, hq⟩ := h n (by omega);refine ⟨l ++ [q], by simp [h1], fun i q' hi => ?_⟩;rcases Nat.lt_or_ge i n with hlt | hge
    · rw [List.getElem?_append_left (by omega)] at hi; exact h2 i q' hi
    · rw [List.getElem?_append_right (by omega)] at hi;have : i - l.length = 0 := by
        have := (List.getElem?_eq_some_iff.1 hi).1;simp at this; omega
      rw [this] at hi; simp at hi; subst hi;have : i = n := by omega
      subst this; exact hq
theorem opens_slice {P : Program} {T E : TypeId} {size : Nat} {α : Type} {en : α → List D} {wf : α → Prop} (hu : P.underlying T = some (.slice E)) (hc : P.cellsOf T = 1) (hs : 0 < size) (he : Opens P E size en wf) :
    Opens P T 1 (fun xs : List α => [D.s size (xs.map en)]) (fun xs => xs.length ≤ maxLen ∧ ∀ x ∈ xs, wf x) := by
  refine ⟨hc, fun enc w base spare held n cs x hx => ?_⟩;rcases open_slice hu hx with ⟨rfl, _⟩ | ⟨a, len, cap, m, n', D', Pl, rfl, hb, hl, hm, hmm, _, hel⟩
  · exact ⟨[], ⟨by simp [maxLen], by simp⟩, ⟨⟨none, 0, rfl, by simp, by simp [maxLen], fun _ => rfl, fun i el h => by simp at h⟩, rfl⟩, trivial⟩
  · have hlm : len ≤ m := by rw [hmm]; split <;> omega
    have each : ∀ i, i < len → ∃ q : α × List Value, wf q.1 ∧ OkL w q.2 (en q.1) ∧ q.2.length = size ∧ w.cells? base (a.add (i * size)) size = some q.2 := by
      intro i hi;obtain ⟨cs', h1, h2⟩ := hel i (by omega);rw [he.1] at h1;obtain ⟨_, hlen, _⟩ := World.cells?_some h1;obtain ⟨q, hq, hok⟩ := he.2 enc w base spare held n' cs' _ h2;exact ⟨(q, cs'), hq, hok, hlen, h1⟩
    obtain ⟨q, hql, hq⟩ := choose_list len each;refine ⟨q.map Prod.fst, ⟨by simp [hql]; omega, fun x hx => ?_⟩, ⟨⟨some a, cap, by simp [hql], by simp [hql, hl], hm, (fun h => by cases h), fun i el hi => ?_⟩, rfl⟩, trivial⟩
    · obtain ⟨y, hy, rfl⟩ := List.mem_map.1 hx;obtain ⟨i, hi⟩ := List.mem_iff_getElem?.1 hy;exact (hq i y hi).1
    · rw [List.map_map, List.getElem?_map] at hi;obtain ⟨y, hy, hel'⟩ := Option.map_eq_some_iff.1 hi;obtain ⟨h1, h2, h3, h4⟩ := hq i y hy;simp only [Function.comp] at hel';subst hel';refine ⟨by rw [← h2.len, h3], fun j d hj => ?_⟩;obtain ⟨u, hu1, hu2, hu3⟩ := h2.at j d hj;have hjs : j < size := by rw [← h3]; exact (List.getElem?_eq_some_iff.1 hu1).1
      obtain ⟨_, hlen, hcell⟩ := World.cells?_some h4;have hc1 := hcell j (by omega);rw [add_add] at hc1;have hu' : y.2[j]? = some u := hu1;have hc2 : w.cell? (a.add (i * size + j)) = some u := by
        rw [hc1]; exact hu'
      obtain ⟨b, o, sp⟩ := a;have hsp : sp = none := by
        have h0l : 0 < q.length := by have := (List.getElem?_eq_some_iff.1 hy).1; omega
        obtain ⟨_, _, g3, g4⟩ := hq 0 q[0] (by simp [h0l]);obtain ⟨_, glen, gcell⟩ := World.cells?_some g4;have g5 := gcell 0 hs;rw [List.getElem?_eq_getElem (by omega)] at g5
        simpa [Addr.add] using World.cell?_spot g5
      subst hsp;have e1 : (⟨b, o, none⟩ : Addr).add (i * size + j) = ⟨b, o + (i * size + j), none⟩ := by unfold Addr.add; split <;> simp_all
      rw [e1] at hc2;refine ⟨b, o, rfl, ?_, u, hc2, hu2, hu3⟩;rcases Nat.lt_or_ge b w.heap.size with g | g
      · exact g
      · rw [World.cell?, Array.getElem?_eq_none g] at hc2; cases hc2
def offs (parts : List (TypeId × Nat)) (i : Nat) : Nat := ((parts.take i).map Prod.snd).sum
def OpensP (P : Program) (parts : List (TypeId × Nat)) (size : Nat) {α : Type} (en : α → List D) (wf : α → Prop) : Prop :=
  ∀ {H : Type} (enc : TypeId × Value → H) (w : World) (base : Nat) (spare : Nat → Bool) (held : Bool) (n : Nat) (cs : List Value), cs.length = size →
    (∀ i T s, parts[i]? = some (T, s) → ∃ x, DataW.trod enc P w base spare held n T ((cs.drop (offs parts i)).take s) = some x) → ∃ a, wf a ∧ OkL w cs (en a)
theorem parts_nil {P : Program} : OpensP P [] 0 (fun _ : Unit => []) (fun _ => True) := by
  intro H enc w base spare held n cs hl _;have : cs = [] := List.length_eq_zero_iff.1 hl;subst this;exact ⟨(), trivial, trivial⟩
theorem parts_cons {P : Program} {T : TypeId} {s size : Nat} {parts : List (TypeId × Nat)} {α β : Type} {en : α → List D} {wf : α → Prop} {en' : β → List D} {wf' : β → Prop} (h : Opens P T s en wf) (hs : OpensP P parts size en' wf') :
    OpensP P ((T, s) :: parts) (s + size) (fun p : α × β => en p.1 ++ en' p.2) (fun p => wf p.1 ∧ wf' p.2) := by
  intro H enc w base spare held n cs hl hp;obtain ⟨x, hx⟩ := hp 0 T s rfl;obtain ⟨a, h1, h2⟩ := h.2 enc w base spare held n _ x hx;obtain ⟨b, h3, h4⟩ := hs enc w base spare held n (cs.drop s) (by simp [hl]) (fun i T' s' hi => by
    obtain ⟨y, hy⟩ := hp (i + 1) T' s' (by simpa using hi);refine ⟨y, ?_⟩;rw [List.drop_drop]
    simpa [offs] using hy)
  refine ⟨(a, b), ⟨h1, h3⟩, ?_⟩;have := h2.append h4
  simpa [offs] using this
def chkF (P : Program) : List Field → Nat → List (TypeId × Nat) → Bool
  | [], _, [] => true
  | f :: fs, off, (T, s) :: ps => f.type == T && P.cellsOf f.type == s && f.offset == off && chkF P fs (off + s) ps
  | _, _, _ => false
theorem chkF_at {P : Program} : ∀ {fs : List Field} {off : Nat} {ps : List (TypeId × Nat)}, chkF P fs off ps = true → ∀ i T s, ps[i]? = some (T, s) → ∃ f, fs[i]? = some f ∧ f.type = T ∧ P.cellsOf f.type = s ∧ f.offset = off + offs ps i := by
  intro fs
  induction fs with
  | nil => intro off ps h i T s hi; cases ps with
    | nil => simp at hi
    | cons p ps => cases h
  | cons f fs ih =>
    intro off ps h i T s hi
    cases ps with
    | nil => simp at hi
    | cons p ps =>
      obtain ⟨T0, s0⟩ := p;simp only [chkF, Bool.and_eq_true, beq_iff_eq] at h;obtain ⟨⟨⟨h1, h2⟩, h3⟩, h4⟩ := h
      cases i with
      | zero => simp at hi; obtain ⟨rfl, rfl⟩ := hi; exact ⟨f, rfl, h1, h2, by simp [offs, h3]⟩
      | succ i =>
        obtain ⟨g, g1, g2, g3, g4⟩ := ih h4 i T s (by simpa using hi);exact ⟨g, by simpa using g1, g2, g3, by rw [g4]; simp [offs]; omega⟩
theorem opens_struct {P : Program} {T : TypeId} {fs : Array Field} {parts : List (TypeId × Nat)} {size : Nat} {α : Type} {en : α → List D} {wf : α → Prop} (hu : P.underlying T = some (.struct fs)) (hc : P.cellsOf T = size) (hf : chkF P fs.toList 0 parts = true) (hp : OpensP P parts size en wf) : Opens P T size en wf := by
  refine ⟨hc, fun enc w base spare held n cs x hx => ?_⟩;obtain ⟨xs, k, _, _, hl, hxl, hx'⟩ := DataW.trod_struct hu hx;refine hp enc w base spare held k cs (by rw [hl, hc]) fun i T' s hi => ?_
  obtain ⟨f, h1, h2, h3, h4⟩ := chkF_at hf i T' s hi;have h5 := hx' i f (by simpa using h1);have hi' : i < fs.size := by simpa using (List.getElem?_eq_some_iff.1 h1).1
  rw [h2, ← h2, h3, h4, Nat.zero_add, h2] at h5;exact ⟨xs[i]'(by omega), by rw [h5]; simp [hxl, hi']⟩
theorem offs_replicate {E s n : Nat} : ∀ {i : Nat}, i ≤ n → offs (List.replicate n (E, s)) i = i * s := by
  intro i hi;simp [offs, List.take_replicate, Nat.min_eq_left hi]
theorem opens_array {P : Program} {T E : TypeId} {m s size : Nat} {α : Type} {en : α → List D} {wf : α → Prop} (hu : P.underlying T = some (.array m E)) (hc : P.cellsOf T = size) (he : P.cellsOf E = s) (hp : OpensP P (List.replicate m (E, s)) size en wf) : Opens P T size en wf := by
  refine ⟨hc, fun enc w base spare held n cs x hx => ?_⟩;obtain ⟨xs, k, _, _, hl, hxl, hx'⟩ := DataW.trod_array hu hx;refine hp enc w base spare held k cs (by rw [hl, hc]) fun i T' s' hi => ?_
  have hlt : i < m := by simpa using (List.getElem?_eq_some_iff.1 hi).1
  simp [List.getElem?_replicate, hlt] at hi;obtain ⟨rfl, rfl⟩ := hi;have h5 := hx' i hlt;rw [he] at h5;rw [offs_replicate (Nat.le_of_lt hlt)];exact ⟨xs[i]'(by omega), by rw [h5]; simp [hxl, hlt]⟩
section
variable {H : Type} {enc : TypeId × Value → H} {P : Program} {w : World} {base b0 : Nat} {spare : Nat → Bool} {held : Bool} {t : TypeId} {r : Reach} {v : Value} {d : DataW H} {p : List MemPlace}
theorem arg_slice {E : TypeId} {size : Nat} {α : Type} {en : α → List D} {wf : List α → Prop} (ht : P.underlying t = some (.slice E)) (ho : Opens P t 1 (fun xs : List α => [D.s size (xs.map en)]) wf) (hv : Value.okWide P w r b0 t v) (h : DataW.Trod enc P w base spare held t v d p) :
    ∃ xs : List α, wf xs ∧ reads size (xs.map en) w (fun b => b < w.heap.size) v := by
  obtain ⟨a, len, cap, rfl⟩ := okWide_slice ht hv;obtain ⟨n, hn⟩ := h;obtain ⟨xs, h1, h2⟩ := ho.2 enc w base spare held n _ _ hn;obtain ⟨u, us, e, h3, h4⟩ := okL_cons h2;have e2 := okL_nil h4;subst e2;have : u = .slice a len cap := by simpa [Value.cells] using e.symm
  subst this;exact ⟨xs, h1, h3⟩
theorem arg_agg {size : Nat} {α : Type} {en : α → List D} {wf : α → Prop} (hv : ∃ cs, v = .agg cs) (ho : Opens P t size en wf) (h : DataW.Trod enc P w base spare held t v d p) :
    ∃ (a : α) (cs : List Value), wf a ∧ v = .agg cs.toArray ∧ OkL w cs (en a) := by
  obtain ⟨cs, rfl⟩ := hv;obtain ⟨n, hn⟩ := h;obtain ⟨a, h1, h2⟩ := ho.2 enc w base spare held n _ _ hn;exact ⟨a, cs.toList, h1, by simp, by simpa [Value.cells] using h2⟩
theorem agg_array {n : Nat} {e : TypeId} (ht : P.underlying t = some (.array n e)) (h : Value.okWide P w r b0 t v) : ∃ cs, v = .agg cs := by
  simp only [Value.okWide, ht] at h;obtain ⟨cs, h1, _⟩ := h;exact ⟨cs, h1⟩
theorem agg_struct {fs : Array Field} (ht : P.underlying t = some (.struct fs)) (h : Value.okWide P w r b0 t v) : ∃ cs, v = .agg cs := by
  simp only [Value.okWide, ht] at h;obtain ⟨cs, h1, _⟩ := h;exact ⟨cs, h1⟩
end
theorem reads_slice {size : Nat} {els : List (List D)} {W : World} {R : Nat → Prop} {v : Value} (h : reads size els W R v) : ∃ a n cap, v = .slice a n cap := by
  obtain ⟨a, cap, h, _⟩ := h;exact ⟨a, _, cap, h⟩
theorem FC.run {P : Program} {f : Nat} {args : List AV} {need : List NEnt} {b : Bool} {vs : Array Value} {W : World} (h : FC P f args need (.val (.bool b)) []) (env : Env) (hvs : (AV.denL env args).toArray = vs) (hn : ∀ x ∈ need, x.holds env W (fun _ => False) (fun b => b < W.heap.size)) :
    Calls P f vs W fun e W' => e = .returned (.bool b) ∧ Below W.heap.size W W' := by
  subst hvs;refine (h env W (fun b => b < W.heap.size) hn (fun _ h => h)).mono ?_
  rintro e W' ⟨u, rfl, env', O', R', _, rfl, hst⟩
  exact ⟨rfl, hst.keep.below⟩
end Go.Proofs.Ytjmkjlhnipnkcaa.Sy
end
