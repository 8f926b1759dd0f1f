/- Texts joined into one: SymRS, SymTu. -/
import Derived.Test.YtglgkcfgjaoabaaSbSymQJ
section
set_option linter.unusedSimpArgs false
set_option linter.unusedVariables false
namespace Go.Proofs.Ytglgkcfgjaoabaa.Sy
open Go.RowKit
theorem oneOf_of_one {v : Value} (h : v.oneCell' = true) : oneOf v = v := by cases v <;> first | rfl | cases h
def rowsF {X : Type} (E Ei si : Nat) (en : X → List D) (xs : List (List X)) (k : Nat) (u0 : Value) : Inv :=
  ⟨fun W O R v => ∃ (us : List Value) (Oo : Nat → Prop) (Os : Nat → Nat → Prop), us.length = xs.length ∧ (NEnt.row 0 E 1 (us.map fun u => [D.v u])).holds (fun _ => v) W Oo R ∧ (∀ b, Oo b → O b) ∧ (∀ j b, Os j b → O b ∧ ¬ Oo b) ∧ (∀ i j b, i ≠ j → Os i b → Os j b → False) ∧
      (∀ (j : Nat) (u : Value) (x : List X), us[j]? = some u → xs[j]? = some x → k ≠ j → (NEnt.row 0 Ei si (x.map en)).holds (fun _ => u) W (Os j) R) ∧ us[k]? = some u0,
   fun W W' O R R' hO hR v ⟨us, Oo, Os, h1, h2, h3, h4, h5, h6, h7⟩ => ⟨us, Oo, Os, h1, NEnt.holds_keep (fun b hb => hO b (h3 b hb)) hR h2, h3, h4, h5, fun j u x hu hx hh => NEnt.holds_keep (fun b hb => hO b (h4 j b hb).1) hR (h6 j u x hu hx hh), h7⟩⟩
section
variable {P : Program} {c : Ctx} {sz : Fm} {Q : Exit → Act → World → Prop} {t : List Item} {s : List (Nat × AV)} {V : List NEnt} {ops : Array Oper} {rest : List Oper}
theorem lend_core {X : Type} {n j E Ei si : Nat} (k g m : Nat) {en : X → List D} {xs : List (List X)} {l : List X} (hk : V[k]? = some (.inv n (rowsO E Ei si en xs none))) (hl : xs[j]? = some l)
    (hf : (!hasS g s && !hasV g V && !hasS m s && !hasV m V && !Nat.beq g m) = true) {env : Env} {tm : Array Value} {W : World} {O : Nat → Nat → Prop} {R : Nat → Prop} (hfr : Fr env sz.sz s tm) (hst : St c env V W O R) :
    ∃ u env' O', Fr env' sz.sz s tm ∧ St c env' (.pin g m u :: .row m Ei si (l.map en) :: .inv n (rowsF E Ei si en xs j u) :: delV [n] V) W O' R := by
  simp only [Bool.and_eq_true, Bool.not_eq_true'] at hf;obtain ⟨⟨⟨⟨hg1, hg2⟩, hm1⟩, hm2⟩, hgm⟩ := hf;have hgm : g ≠ m := fun e => by subst e; rw [Nat.beq_refl] at hgm; cases hgm
  have hm := List.mem_of_getElem? hk;have hmne : m ≠ n := fun e => by subst e; have := mem_has hm (n := m) (by simp [NEnt.has]); rw [hm2] at this; cases this
  have hgne : g ≠ n := fun e => by subst e; have := mem_has hm (n := g) (by simp [NEnt.has]); rw [hg2] at this; cases this
  obtain ⟨us, Oo, Os, h1, h2, h3, h4, h5, h6⟩ := hst.holds _ hm;have hlt : j < us.length := by rw [h1]; exact (List.getElem?_eq_some_iff.1 hl).1
  have hrj := h6 j us[j] l (List.getElem?_eq_getElem hlt) hl (by simp);have hn1 : setEnv env m us[j] n = env n := setEnv_other hmne
  classical
  have hover := hst.over (take := [.inv n (rowsO E Ei si en xs none)]) (M1 := fun b => O n b) (env' := setEnv env m us[j]) (news := [.pin g m us[j], .row m Ei si (l.map en), .inv n (rowsF E Ei si en xs j us[j])]) (W' := W) (R' := R)
    (O' := fun q b => if q = m then Os j b else if q = g then False else O n b ∧ ¬ Os j b) (fun x hx => by rw [List.mem_singleton.1 hx]; exact hm) (fun b hb => ⟨_, List.mem_singleton.2 rfl, hb⟩) ⟨Keep.refl _ _, fun y hy => ?_, fun y hy b hb => ?_, fun y hy z hz hne b hb => ?_, fun b hb => ⟨(hst.ro b hb).1, .inr (.inl hb)⟩, fun _ h => h, ?_⟩ (fun q hq => setEnv_other (hq (.row m Ei si (l.map en)) (by simp) (by simp [NEnt.name, hmne]))) (fun y hy => by
      simp only [List.mem_cons, List.not_mem_nil, or_false] at hy;rcases hy with rfl | rfl | rfl
      · exact .inr hg2
      · exact .inr hm2
      · exact .inl (by simp [NEnt.name]))
  · obtain ⟨O2, h⟩ := hover;exact ⟨_, _, O2, hfr.congr fun q hq => (setEnv_other fun e => by subst e; rw [hm1] at hq; cases hq).symm, h⟩
  · simp only [List.mem_cons, List.not_mem_nil, or_false] at hy;rcases hy with rfl | rfl | rfl
    · exact setEnv_same ..
    · simp only [NEnt.name, if_true];simp only [NEnt.holds, setEnv_same] at hrj ⊢;exact hrj
    · simp only [NEnt.holds, NEnt.name, hn1, Ne.symm hmne, Ne.symm hgne, if_false];refine ⟨us, Oo, fun q b => Os q b ∧ ¬ Os j b, h1, h2, fun b hb => ⟨h3 b hb, fun h => (h4 j b h).2 hb⟩, fun q b hq => ⟨⟨(h4 q b hq.1).1, hq.2⟩, (h4 q b hq.1).2⟩, fun q q' b hne h h' => h5 q q' b hne h.1 h'.1, fun q u y hu hy hh => ?_, List.getElem?_eq_getElem hlt⟩;have e2 : (fun b => Os q b ∧ ¬ Os j b) = Os q := by
        funext b; exact propext ⟨fun h => h.1, fun h => ⟨h, fun h' => h5 q j b (Ne.symm hh) h h'⟩⟩
      show (NEnt.row 0 Ei si (y.map en)).holds (fun _ => u) W (fun b => Os q b ∧ ¬ Os j b) R;rw [e2]; exact h6 q u y hu hy (by simp)
  · simp only [List.mem_cons, List.not_mem_nil, or_false] at hy;have hb' : O n b := by
      rcases hy with rfl | rfl | rfl
      · simp [NEnt.name, hgm] at hb
      · simp only [NEnt.name, if_true] at hb; exact (h4 j b hb).1
      · simp only [NEnt.name, Ne.symm hmne, Ne.symm hgne, if_false] at hb; exact hb.1
    obtain ⟨q1, q2, q3⟩ := hst.own _ hm b hb';exact ⟨q1, .inr hb', q3⟩
  · simp only [List.mem_cons, List.not_mem_nil, or_false] at hy hz;rcases hy with rfl | rfl | rfl <;> rcases hz with rfl | rfl | rfl <;> first | exact hne rfl | (simp only [NEnt.name, hgm, Ne.symm hmne, Ne.symm hgne, if_false, if_true] at hb; first | exact hb.1.elim | exact hb.2.elim | exact hb.1.2 hb.2 | exact hb.2.2 hb.1)
  · simp [NEnt.name, Ne.symm hmne, hgm, hgne, hmne]
theorem TC.lend {X : Type} {n j E Ei si : Nat} (k g m : Nat) (V' : List NEnt) {en : X → List D} {xs : List (List X)} {l : List X} (hk : V[k]? = some (.inv n (rowsO E Ei si en xs none))) (hl : xs[j]? = some l) (hf : (!hasS g s && !hasV g V && !hasS m s && !hasV m V && !Nat.beq g m) = true)
    (hV : delV [n] V = V') (h : ∀ u, TC P c sz Q t s (.pin g m u :: .row m Ei si (l.map en) :: .inv n (rowsF E Ei si en xs j u) :: V')) : TC P c sz Q t s V :=
  fun env tm W O R hfr hst => by
    obtain ⟨u, env', O', h1, h2⟩ := lend_core k g m hk hl hf hfr hst;rw [hV] at h2;exact h u env' tm W O' R h1 h2
theorem TL.lend {X : Type} {n j E Ei si : Nat} (k g m : Nat) (V' : List NEnt) {en : X → List D} {xs : List (List X)} {l : List X} (hk : V[k]? = some (.inv n (rowsO E Ei si en xs none))) (hl : xs[j]? = some l) (hf : (!hasS g s && !hasV g V && !hasS m s && !hasV m V && !Nat.beq g m) = true)
    (hV : delV [n] V = V') (h : ∀ u, TL P c sz Q ops rest t s (.pin g m u :: .row m Ei si (l.map en) :: .inv n (rowsF E Ei si en xs j u) :: V')) : TL P c sz Q ops rest t s V :=
  fun env tm W O R hfr hst => by
    obtain ⟨u, env', O', h1, h2⟩ := lend_core k g m hk hl hf hfr hst;rw [hV] at h2;exact h u env' tm W O' R h1 h2
theorem giveB_core {X : Type} {n j E Ei si g m : Nat} {u0 : Value} (k k1 k2 : Nat) (l : List X) {en : X → List D} {xs ys : List (List X)} {rs : List (List D)} (hk : V[k]? = some (.inv n (rowsF E Ei si en xs j u0))) (hk1 : V[k1]? = some (.row m Ei si rs)) (hk2 : V[k2]? = some (.pin g m u0)) (hrs : rs = l.map en) (hmn : (m == n) = false) (hys : xs.set j l = ys)
    {env : Env} {W : World} {O : Nat → Nat → Prop} {R : Nat → Prop} (hst : St c env V W O R) :
    ∃ O', St c env (.inv n (rowsO E Ei si en ys none) :: delV [n, m, g] V) W O' R := by
  subst hrs; subst hys;have hmne : m ≠ n := by simpa using hmn
  have hm := List.mem_of_getElem? hk;have hr := List.mem_of_getElem? hk1;have hp := List.mem_of_getElem? hk2;obtain ⟨us, Oo, Os, h1, h2, h3, h4, h5, h6, h7⟩ := hst.holds _ hm;have hrw := hst.holds _ hr;have hpin : env m = u0 := hst.holds _ hp;have hjl : j < us.length := (List.getElem?_eq_some_iff.1 h7).1;simp only [NEnt.name] at h2 h3 h4;have hOm : ∀ b, O m b → ¬ O n b := fun b hb h => hst.apart _ hm _ hr (by simp [NEnt.name, Ne.symm hmne]) b ⟨h, hb⟩
  classical
  refine hst.over (take := [NEnt.inv n (rowsF E Ei si en xs j u0), NEnt.row m Ei si (l.map en), NEnt.pin g m u0]) (M1 := fun b => O n b ∨ O m b) (env' := env) (news := [.inv n (rowsO E Ei si en (xs.set j l) none)]) (W' := W) (R' := R)
    (O' := fun _ b => O n b ∨ O m b) (fun x hx => by simp only [List.mem_cons, List.not_mem_nil, or_false] at hx; rcases hx with rfl | rfl | rfl <;> assumption) (fun b hb => hb.elim (fun h => ⟨NEnt.inv n (rowsF E Ei si en xs j u0), by simp, h⟩) (fun h => ⟨NEnt.row m Ei si (l.map en), by simp, h⟩)) ⟨Keep.refl _ _, fun z hz => ?_, fun z hz b hb => ?_, fun z hz z2 hz2 hne b hb => ?_, fun b hb => ⟨(hst.ro b hb).1, .inr (.inl hb)⟩, fun _ h => h, by simp⟩ (fun _ _ => rfl) (fun z hz => by
      simp only [List.mem_singleton] at hz; subst hz; exact .inl (by simp [NEnt.name]))
  · simp only [List.mem_singleton] at hz;subst hz;refine ⟨us, Oo, fun q b => if q = j then O m b else Os q b ∧ q ≠ j, by rw [List.length_set]; exact h1, h2, fun b hb => .inl (h3 b hb), fun q b hq => ?_, fun q q' b hne hq hq' => ?_, fun q u y2 hu hy2 _ => ?_⟩
    · dsimp only at hq
      split at hq
      · exact ⟨.inr hq, fun h => (hOm b hq) (h3 b h)⟩
      · exact ⟨.inl (h4 q b hq.1).1, (h4 q b hq.1).2⟩
    · dsimp only at hq hq'
      split at hq <;> split at hq'
      · rename_i a b; exact hne (a.trans b.symm)
      · exact (hOm b hq) (h4 q' b hq'.1).1
      · exact (hOm b hq') (h4 q b hq.1).1
      · exact h5 q q' b hne hq.1 hq'.1
    · rw [List.getElem?_set] at hy2
      by_cases e : j = q
      · subst e;rw [if_pos rfl, if_pos (by omega)] at hy2;rw [h7] at hu;cases hu; cases hy2
        simp only [NEnt.holds, NEnt.name, if_true] at hrw ⊢;rw [← hpin]; exact hrw
      · rw [if_neg e] at hy2;have h8 := h6 q u y2 hu hy2 e;have e5 : (fun b => if q = j then O m b else Os q b ∧ q ≠ j) = Os q := by
          funext b
          rw [if_neg (Ne.symm e)];exact propext ⟨fun h => h.1, fun h => ⟨h, Ne.symm e⟩⟩
        show (NEnt.row 0 Ei si (y2.map en)).holds (fun _ => u) W (fun b => if q = j then O m b else Os q b ∧ q ≠ j) R;rw [e5]; exact h8
  · rcases hb with hb | hb
    · obtain ⟨q1, q2, q3⟩ := hst.own _ hm b hb; exact ⟨q1, .inr (.inl hb), q3⟩
    · obtain ⟨q1, q2, q3⟩ := hst.own _ hr b hb; exact ⟨q1, .inr (.inr hb), q3⟩
  · simp only [List.mem_singleton] at hz hz2;subst hz; subst hz2; exact hne rfl
theorem TC.giveB {X : Type} {n j E Ei si g m : Nat} {u0 : Value} (k k1 k2 : Nat) (l : List X) (V' : List NEnt) {en : X → List D} {xs ys : List (List X)} {rs : List (List D)} (hk : V[k]? = some (.inv n (rowsF E Ei si en xs j u0))) (hk1 : V[k1]? = some (.row m Ei si rs)) (hk2 : V[k2]? = some (.pin g m u0)) (hrs : rs = l.map en) (hmn : (m == n) = false) (hys : xs.set j l = ys)
    (hV : delV [n, m, g] V = V') (h : TC P c sz Q t s (.inv n (rowsO E Ei si en ys none) :: V')) : TC P c sz Q t s V :=
  fun env tm W O R hfr hst => by obtain ⟨O', h2⟩ := giveB_core k k1 k2 l hk hk1 hk2 hrs hmn hys hst; rw [hV] at h2; exact h env tm W O' R hfr h2
theorem TL.giveB {X : Type} {n j E Ei si g m : Nat} {u0 : Value} (k k1 k2 : Nat) (l : List X) (V' : List NEnt) {en : X → List D} {xs ys : List (List X)} {rs : List (List D)} (hk : V[k]? = some (.inv n (rowsF E Ei si en xs j u0))) (hk1 : V[k1]? = some (.row m Ei si rs)) (hk2 : V[k2]? = some (.pin g m u0)) (hrs : rs = l.map en) (hmn : (m == n) = false) (hys : xs.set j l = ys)
    (hV : delV [n, m, g] V = V') (h : TL P c sz Q ops rest t s (.inv n (rowsO E Ei si en ys none) :: V')) : TL P c sz Q ops rest t s V :=
  fun env tm W O R hfr hst => by obtain ⟨O', h2⟩ := giveB_core k k1 k2 l hk hk1 hk2 hrs hmn hys hst; rw [hV] at h2; exact h env tm W O' R hfr h2
end
theorem set_same {α : Type} {xs : List α} {j : Nat} {l : α} (h : xs[j]? = some l) : xs.set j l = xs := by
  obtain ⟨hj, rfl⟩ := List.getElem?_eq_some_iff.1 h;exact List.set_getElem_self hj
section
variable {P : Program} {s : List (Nat × AV)} {o : Oper} {ρ : Operand → Option AV}
theorem sp_loadF {X : Type} {T n j E Ei si g m : Nat} {u0 : Value} {x : Operand} {en : X → List D} {xs : List (List X)} (ho : o.op = .load T x) (hx : ρ x = some (.cell n j)) (hT : VarT P T 1 false) :
    OpSpec P o ρ [.inv n (rowsF E Ei si en xs j u0), .pin g m u0] (.ref m) [] := by
  refine .pure fun ev env W O R hev hn => ?_
  obtain ⟨us, Oo, Os, h1, h2, h3, h4, h5, h6, h7⟩ := hn (.inv n (rowsF E Ei si en xs j u0)) (by simp);have hpin : env m = u0 := hn (.pin g m u0) (by simp);obtain ⟨ad, cap, g1, g2, g3, g4, g5⟩ := outer_read h2;obtain ⟨b, off, ha, _, hcell, hone⟩ := g5 j u0 h7;subst ha;have hx' := hev x _ hx;simp only [AV.den, NEnt.name] at hx' g1;rw [cellAt_eq g1] at hx';simp [execOp, ho, hx', Instr.loadAt, Instr.sureAddr, loadVar, hT.isAgg, hcell, AV.den, hpin, oneOf_of_one hone]
theorem sp_indexF {X : Type} {T E Ei si bytes n j : Nat} {x i : Operand} {k : IntKind} {iv : Int} {en : X → List D} {xs : List (List X)} {u0 : Value} {y : NEnt} (ho : o.op = .indexAddr T x i) (hx : ρ x = some (.ref n)) (hi : ρ i = some (.val (.int k iv))) (hy : y = .inv n (rowsF E Ei si en xs j u0)) (hT : SlT P T E 1 bytes)
    {l : List X} (h0 : decide (0 ≤ iv) = true) (he : xs[iv.toNat]? = some l) : OpSpec P o ρ [y] (.cell n iv.toNat) [] := by
  subst hy;refine .pure fun ev env W O R hev hn => ?_
  obtain ⟨us, Oo, Os, h1, h2, _⟩ := hn _ (List.mem_singleton.2 rfl);obtain ⟨ad, cap, g1, g2, g3, g4, g5⟩ := outer_read h2;obtain ⟨ti, z, hti, _, hts, _, _⟩ := hT.info;have h0' : 0 ≤ iv := of_decide_eq_true h0;have hlt' : iv < us.length := by
    have := (List.getElem?_eq_some_iff.1 he).1
    omega
  cases ad with
  | none => have := g2 rfl; omega
  | some ad =>
    have hx' := hev x _ hx;simp only [AV.den, g1, oneOf] at hx';simp [execOp, ho, hx', hev i _ hi, AV.den, Instr.indexAt, asIntOf, run_underlying hT.under, sizeOf, typeInfo, hti, hts, h0', hlt', g1, cellAt]
theorem sp_emptyO {X : Type} {T E Ei si bytes : Nat} (r : Nat) {en : X → List D} (xs : List (List X)) (he : xs = []) (ho : o.op = .buildSlice T 0 #[]) (hT : SlT P T E 1 bytes) : OpSpec P o ρ [] (.ref r) [.inv r (rowsO E Ei si en xs none)] := by
  subst he;intro ev env W O R hev hn hO hR;refine (sp_emptySlice (P := P) r ho hT ev env W O R hev hn hO hR).mono ?_
  rintro u W' ⟨env', O', R', he', hu, hst⟩
  refine ⟨env', O', R', fun m hm => he' m (fun z hz2 => by rw [List.mem_singleton] at hz2; subst hz2; exact hm (.inv r (rowsO E Ei si en [] none)) (by simp)), hu, ?_⟩;have hrow := hst.holds (.row r E 1 []) (by simp);exact hst.write (y := .inv r (rowsO E Ei si en [] none)) 0 rfl (Keep.refl _ _) rfl ⟨[], O' r, fun _ _ => False, rfl, hrow, fun b hb => hb, fun _ _ hb => hb.elim, fun _ _ _ _ hb => hb.elim, fun j u x hu _ _ => by simp at hu⟩
theorem ts_oneO {X : Type} {T E Ei si bytes m : Nat} (r : Nat) {y : Operand} {en : X → List D} (l : List X) {rs : List (List D)} (ho : o.op = .buildSlice T 1 #[(0, y)]) (hy : rho s y = some (.ref m)) (hT : SlT P T E 1 bytes) (hrs : rs = l.map en) (hrm : (r == m) = false) :
    TSpec P o (rho s) [.row m Ei si rs] [] (.ref r) [.inv r (rowsO E Ei si en [l] none)] := by
  subst hrs;intro evl c env W0 W O R he hst ht hnd hnn;have hr := ht (.row m Ei si (l.map en)) (by simp);have hrne : r ≠ m := by simpa using hrm
  have hrV : hasV r W0 = false := by
    rcases hnn (.inv r (rowsO E Ei si en [l] none)) (by simp) with h | h
    · simp [NEnt.name, hrne] at h
    · exact h
  have hrw := hst.holds _ hr;have hone : oneOf (env m) = env m ∧ (env m).oneCell' = true := by
    obtain ⟨a, cap, q1, _⟩ := row_read isOwn hrw;rw [q1]; exact ⟨rfl, rfl⟩
  classical
  have hsp := sp_buildSlice (P := P) (o := o) (ρ := fun z => if z = y then some (.val (env m)) else none) (qs := [.val (env m)]) (need := []) (els := [[D.v (env m)]]) r (ps := [(0, y)]) ho hT (by simp) (by simp) rfl (by simp) (by simp [AV.flat, AV.one, AV.cs, hone.2, cells_one hone.2]) (by simpa [AV.cs, cells_one hone.2] using ADL.v ADL.nil) (by simp) rfl (by simp [AV.cs, cells_one hone.2, AV.has]) (by simp) evl env W (fun _ _ => False) R (fun z a hz => by
      have hz : (if z = y then some (AV.val (env m)) else none) = some a := hz
      split at hz
      · rename_i e; cases hz; rw [e, he y _ hy]; exact hone.1
      · cases hz) (by simp) (by simp) (fun b hb => (hst.ro b hb).1)
  refine hsp.mono ?_
  rintro u W' ⟨env', O', R', he', hu, hst'⟩
  have hkeep := hst'.keep;have hrow := hst'.holds _ (List.mem_singleton.2 rfl);have hem : env' m = env m := he' m (fun x hx => by rw [List.mem_singleton] at hx; subst hx; exact hrne);have hnew : ∀ b, O' r b → W.heap.size ≤ b := fun b hb => by
    rcases (hst'.own _ (List.mem_singleton.2 rfl) b hb).2.1 with h | h
    · exact h
    · exact h.elim
  have hold : ∀ b, O m b → b < W.heap.size := fun b hb => (hst.own _ hr b hb).1
  have hRR : ∀ b, O m b → ¬ R' b := fun b hb h => by
    rcases (hst'.ro b h).2 with h2 | h2 | h2
    · exact absurd (hold b hb) (Nat.not_lt.2 h2)
    · exact (hst.own _ hr b hb).2.2 h2
    · exact h2
  suffices hs : ∃ O2, St c env' ([NEnt.inv r (rowsO E Ei si en [l] none)] ++ delV ([NEnt.row m Ei si (l.map en)].map NEnt.name) W0) W' O2 R' by
    obtain ⟨O2, h⟩ := hs;exact ⟨env', O2, R', fun q hq => he' q (fun x hx => by rw [List.mem_singleton] at hx; subst hx; exact hq (.inv r (rowsO E Ei si en [l] none)) (by simp) (by simp [NEnt.name, hrne])), hu, h⟩
  refine hst.over (take := [NEnt.row m Ei si (l.map en)]) (M1 := fun b => O m b) (env' := env') (news := [.inv r (rowsO E Ei si en [l] none)]) (W' := W') (R' := R')
    (O' := fun _ b => O' r b ∨ O m b) ht (fun b hb => ⟨NEnt.row m Ei si (l.map en), by simp, hb⟩) ⟨⟨hkeep.os, hkeep.tape, hkeep.output, hkeep.size, fun b hb hn => hkeep.block b hb id⟩, fun z hz => ?_, fun z hz b hb => ?_, fun z hz z2 hz2 hne b hb => ?_, fun b hb => ?_, hst'.r0, by simp⟩ (fun q hq => he' q (fun x hx => by rw [List.mem_singleton] at hx; subst hx; exact hq (.inv r (rowsO E Ei si en [l] none)) (by simp) (by simp [NEnt.name, hrne]))) (fun z hz => by
      simp only [List.mem_singleton] at hz; subst hz; exact .inr hrV)
  · simp only [List.mem_singleton] at hz;subst hz;refine ⟨[env m], O' r, fun q b => q = 0 ∧ O m b, rfl, hrow, fun b hb => .inl hb, fun q b hq => ⟨.inr hq.2, fun h => by have := hnew b h; have := hold b hq.2; omega⟩, fun q q' b hne hq hq' => hne (hq.1.trans hq'.1.symm), fun q u2 y2 hu2 hy2 _ => ?_⟩
    cases q with
    | succ q => simp at hu2
    | zero =>
      simp only [List.getElem?_cons_zero, Option.some.injEq] at hu2 hy2;subst hu2; subst hy2;have h7 : (NEnt.row m Ei si (l.map en)).holds env W' (O m) R' := NEnt.holds_keep (fun b hb => hkeep.block b (hold b hb) id) (fun b hb => ⟨hst'.r0 b hb, hkeep.block b (hst.ro b hb).1 id⟩) hrw;have e2 : (fun b => 0 = 0 ∧ O m b) = O m := by funext b; simp
      show (NEnt.row 0 Ei si (l.map en)).holds (fun _ => env m) W' (fun b => 0 = 0 ∧ O m b) R';rw [e2];exact h7
  · rcases hb with hb | hb
    · simp only [List.mem_singleton] at hz;obtain ⟨q1, q2, q3⟩ := hst'.own _ (List.mem_singleton.2 rfl) b hb;exact ⟨q1, .inl (hnew b hb), q3⟩
    · exact ⟨Nat.lt_of_lt_of_le (hold b hb) hkeep.size, .inr hb, hRR b hb⟩
  · simp only [List.mem_singleton] at hz hz2;subst hz; subst hz2; exact hne rfl
  · obtain ⟨q1, q2⟩ := hst'.ro b hb;exact ⟨q1, q2.imp id (fun h => h.imp id fun h => h.elim)⟩
theorem ts_appendO {X : Type} {T E Ei si bytes n p N N2 : Nat} (r : Nat) {x y : Operand} {en : X → List D} {xs ys zs : List (List X)} (ho : o.op = .call { callee := .builtin .append, args := #[x, y], argTypes := #[T, T] })
    (hx : rho s x = some (.ref n)) (hy : rho s y = some (.ref p)) (hnm : (p == n) = false) (hT : SlT P T E 1 bytes) (hl1 : xs.length = N) (hl2 : ys.length = N2) (hroom : room bytes (N + N2) = true) (hz : xs ++ ys = zs) (hrn : (r == n) = false) (hrp : (r == p) = false) :
    TSpec P o (rho s) [.inv n (rowsO E Ei si en xs none), .inv p (rowsO E Ei si en ys none)] [] (.ref r) [.inv r (rowsO E Ei si en zs none)] := by
  subst hl1; subst hl2; subst hz;intro evl c env W0 W O R he hst ht hnd hnn;have hn := ht (.inv n (rowsO E Ei si en xs none)) (by simp);have hp := ht (.inv p (rowsO E Ei si en ys none)) (by simp);have hpn : p ≠ n := by simpa using hnm
  have hrn' : r ≠ n := by simpa using hrn
  have hrp' : r ≠ p := by simpa using hrp
  have hrV : hasV r W0 = false := by
    rcases hnn (.inv r (rowsO E Ei si en (xs ++ ys) none)) (by simp) with h | h
    · simp [NEnt.name, hrn', hrp'] at h
    · exact h
  obtain ⟨us, Oo, Os, h1, h2, h3, h4, h5, h6⟩ := hst.holds _ hn;obtain ⟨us2, Oo2, Os2, k1, k2, k3, k4, k5, k6⟩ := hst.holds _ hp;simp only [NEnt.name] at h2 h3 h4 k2 k3 k4;have hap : ∀ b, O n b → O p b → False := fun b hb hb2 => hst.apart _ hn _ hp (by simp [NEnt.name, Ne.symm hpn]) b ⟨hb, hb2⟩
  classical
  have hA : St ⟨W, fun b => Oo b ∨ Oo2 b, R⟩ env [.row n E 1 (us.map fun u => [D.v u]), .row p E 1 (us2.map fun u => [D.v u])] W (fun q b => if q = n then Oo b else Oo2 b) R := by
    refine ⟨Keep.refl _ _, fun z hz => ?_, fun z hz b hb => ?_, fun z hz z2 hz2 hne b hb => ?_, fun b hb => ⟨(hst.ro b hb).1, .inr (.inl hb)⟩, fun _ hb => hb, by simp [NEnt.name, Ne.symm hpn]⟩
    · simp only [List.mem_cons, List.not_mem_nil, or_false] at hz;rcases hz with rfl | rfl
      · simp only [NEnt.name, if_true]; exact h2
      · simp only [NEnt.name, hpn, if_false]; exact k2
    · simp only [List.mem_cons, List.not_mem_nil, or_false] at hz;rcases hz with rfl | rfl
      · simp only [NEnt.name, if_true] at hb;obtain ⟨q1, q2, q3⟩ := hst.own _ hn b (h3 b hb); exact ⟨q1, .inr (.inl hb), q3⟩
      · simp only [NEnt.name, hpn, if_false] at hb;obtain ⟨q1, q2, q3⟩ := hst.own _ hp b (k3 b hb); exact ⟨q1, .inr (.inr hb), q3⟩
    · simp only [List.mem_cons, List.not_mem_nil, or_false] at hz hz2;rcases hz with rfl | rfl <;> rcases hz2 with rfl | rfl
      · exact hne rfl
      · simp only [NEnt.name, hpn, if_false, if_true] at hb; exact hap b (h3 b hb.1) (k3 b hb.2)
      · simp only [NEnt.name, hpn, if_false, if_true] at hb; exact hap b (h3 b hb.2) (k3 b hb.1)
      · exact hne rfl
  have hcore := ts_append (P := P) (s := s) (o := o) (N := us.length) (N2 := us2.length) r ho hx hy (els := us.map fun u => [D.v u]) (els2 := us2.map fun u => [D.v u]) (ym := .row p E 1 (us2.map fun u => [D.v u])) isOwn hnm hT (List.length_map _) (List.length_map _) (by rw [h1, k1]; exact hroom) rfl hrn evl _ env _ W _ R he hA (by simp) (by simp) (fun z hz => by
    rw [List.mem_singleton] at hz; subst hz;refine .inr ?_;simp [hasV, NEnt.has, NEnt.name, Ne.symm hrn', Ne.symm hrp'])
  refine hcore.mono ?_
  rintro u W' ⟨env', O', R', he', hu, hB⟩
  have hkeep := hB.keep;have hrm : NEnt.row r E 1 ((us.map fun u => [D.v u]) ++ (us2.map fun u => [D.v u])) ∈ [NEnt.row r E 1 ((us.map fun u => [D.v u]) ++ (us2.map fun u => [D.v u]))] ++ delV ([NEnt.row n E 1 (us.map fun u => [D.v u])].map NEnt.name) [.row n E 1 (us.map fun u => [D.v u]), .row p E 1 (us2.map fun u => [D.v u])] := by simp
  have hrow := hB.holds _ hrm;rw [← List.map_append] at hrow;have hown := hB.own _ hrm;simp only [NEnt.name] at hrow hown;have hM : ∀ b, Oo b ∨ Oo2 b → O n b ∨ O p b := fun b hb => hb.imp (h3 b) (k3 b)
  have hOn : ∀ b, O n b → b < W.heap.size := fun b hb => (hst.own _ hn b hb).1
  have hOp : ∀ b, O p b → b < W.heap.size := fun b hb => (hst.own _ hp b hb).1
  have hnotM : ∀ j b, Os j b → ¬ (Oo b ∨ Oo2 b) := fun j b hb h => h.elim (h4 j b hb).2 fun h => hap b (h4 j b hb).1 (k3 b h)
  have hnotM2 : ∀ j b, Os2 j b → ¬ (Oo b ∨ Oo2 b) := fun j b hb h => h.elim (fun h => hap b (h3 b h) (k4 j b hb).1) (k4 j b hb).2
  have hkR : ∀ b, R b → R' b ∧ W'.heap[b]? = W.heap[b]? := fun b hb => ⟨hB.r0 b hb, hkeep.block b (hst.ro b hb).1 fun h => h.elim (fun h => (hst.own _ hn b (h3 b h)).2.2 hb) (fun h => (hst.own _ hp b (k3 b h)).2.2 hb)⟩
  have hnR : ∀ b, b < W.heap.size → ¬ R b → ¬ (Oo b ∨ Oo2 b) → ¬ R' b := fun b hb hr hm h => by
    rcases (hB.ro b h).2 with h2 | h2 | h2
    · exact absurd ‹b < W.heap.size› (Nat.not_lt.2 h2)
    · exact hr h2
    · exact hm h2
  have hOr : ∀ b, O' r b → W.heap.size ≤ b ∨ Oo b ∨ Oo2 b := fun b hb => (hown b hb).2.1
  have hc : ∀ q, (∀ z ∈ [NEnt.inv r (rowsO E Ei si en (xs ++ ys) none)], z.name ∉ [NEnt.inv n (rowsO E Ei si en xs none), NEnt.inv p (rowsO E Ei si en ys none)].map NEnt.name → z.name ≠ q) → env' q = env q := fun q hq => he' q (fun x hx hx2 => by
    rw [List.mem_singleton] at hx; subst hx;exact hq (.inv r (rowsO E Ei si en (xs ++ ys) none)) (by simp) (by simp [NEnt.name, hrn', hrp']))
  suffices hs : ∃ O2, St c env' ([NEnt.inv r (rowsO E Ei si en (xs ++ ys) none)] ++ delV ([NEnt.inv n (rowsO E Ei si en xs none), NEnt.inv p (rowsO E Ei si en ys none)].map NEnt.name) W0) W' O2 R' by
    obtain ⟨O2, h⟩ := hs;exact ⟨env', O2, R', hc, hu, h⟩
  refine hst.over (take := [NEnt.inv n (rowsO E Ei si en xs none), NEnt.inv p (rowsO E Ei si en ys none)]) (M1 := fun b => O n b ∨ O p b) (env' := env') (news := [.inv r (rowsO E Ei si en (xs ++ ys) none)]) (W' := W') (R' := R')
    (O' := fun _ b => O' r b ∨ (∃ j, Os j b) ∨ ∃ j, Os2 j b) ht (fun b hb => hb.elim (fun h => ⟨NEnt.inv n (rowsO E Ei si en xs none), by simp, h⟩) (fun h => ⟨NEnt.inv p (rowsO E Ei si en ys none), by simp, h⟩)) ⟨⟨hkeep.os, hkeep.tape, hkeep.output, hkeep.size, fun b hb hn => hkeep.block b hb fun h => hn (hM b h)⟩, fun z hz => ?_, fun z hz b hb => ?_, fun z hz z2 hz2 hne b hb => ?_, fun b hb => ?_, hB.r0, by simp⟩ hc (fun z hz => by
      simp only [List.mem_singleton] at hz; subst hz; exact .inr hrV)
  · simp only [List.mem_singleton] at hz;subst hz;refine ⟨us ++ us2, O' r, fun q b => if q < us.length then Os q b else Os2 (q - us.length) b, by simp [h1, k1], hrow, fun b hb => .inl hb, fun q b hq => ?_, fun q q' b hne hq hq' => ?_, fun q u2 y2 hu2 hy2 _ => ?_⟩
    · dsimp only at hq
      split at hq
      · exact ⟨.inr (.inl ⟨_, hq⟩), fun h => (hOr b h).elim (fun h => by have := hOn b (h4 _ b hq).1; omega) (hnotM _ b hq)⟩
      · exact ⟨.inr (.inr ⟨_, hq⟩), fun h => (hOr b h).elim (fun h => by have := hOp b (k4 _ b hq).1; omega) (hnotM2 _ b hq)⟩
    · dsimp only at hq hq'
      split at hq <;> split at hq'
      · exact h5 q q' b hne hq hq'
      · exact hap b (h4 _ b hq).1 (k4 _ b hq').1
      · exact hap b (h4 _ b hq').1 (k4 _ b hq).1
      · exact k5 _ _ b (by omega) hq hq'
    · by_cases e : q < us.length
      · rw [List.getElem?_append_left e] at hu2;rw [List.getElem?_append_left (by omega)] at hy2;have h7 := h6 q u2 y2 hu2 hy2 (by simp);have h8 : (NEnt.row 0 Ei si (y2.map en)).holds (fun _ => u2) W' (Os q) R' := NEnt.holds_keep (fun b hb => hkeep.block b (hOn b (h4 q b hb).1) (hnotM q b hb)) hkR h7;have e2 : (fun b => if q < us.length then Os q b else Os2 (q - us.length) b) = Os q := by funext b; rw [if_pos e]
        show (NEnt.row 0 Ei si (y2.map en)).holds (fun _ => u2) W' (fun b => if q < us.length then Os q b else Os2 (q - us.length) b) R';rw [e2]; exact h8
      · rw [List.getElem?_append_right (by omega)] at hu2;rw [List.getElem?_append_right (by omega), ← h1] at hy2;have h7 := k6 (q - us.length) u2 y2 hu2 hy2 (by simp);have h8 : (NEnt.row 0 Ei si (y2.map en)).holds (fun _ => u2) W' (Os2 (q - us.length)) R' := NEnt.holds_keep (fun b hb => hkeep.block b (hOp b (k4 _ b hb).1) (hnotM2 _ b hb)) hkR h7;have e2 : (fun b => if q < us.length then Os q b else Os2 (q - us.length) b) = Os2 (q - us.length) := by funext b; rw [if_neg e]
        show (NEnt.row 0 Ei si (y2.map en)).holds (fun _ => u2) W' (fun b => if q < us.length then Os q b else Os2 (q - us.length) b) R';rw [e2]; exact h8
  · rcases hb with hb | ⟨j, hb⟩ | ⟨j, hb⟩
    · obtain ⟨q1, q2, q3⟩ := hown b hb;exact ⟨q1, q2.imp id (hM b), q3⟩
    · have h7 := (h4 j b hb).1;obtain ⟨q1, q2, q3⟩ := hst.own _ hn b h7;exact ⟨Nat.lt_of_lt_of_le q1 hkeep.size, .inr (.inl h7), hnR b q1 q3 (hnotM j b hb)⟩
    · have h7 := (k4 j b hb).1;obtain ⟨q1, q2, q3⟩ := hst.own _ hp b h7;exact ⟨Nat.lt_of_lt_of_le q1 hkeep.size, .inr (.inr h7), hnR b q1 q3 (hnotM2 j b hb)⟩
  · simp only [List.mem_singleton] at hz hz2;subst hz; subst hz2; exact hne rfl
  · obtain ⟨q1, q2⟩ := hB.ro b hb;exact ⟨q1, q2.imp id (fun h => h.imp id (hM b))⟩
end
end Go.Proofs.Ytglgkcfgjaoabaa.Sy
end
section
set_option linter.unusedSimpArgs false
set_option linter.unusedVariables false
namespace Go.Proofs.Ytglgkcfgjaoabaa.Sy
open Go.RowKit
section
variable {X : Type} {P : Program} {c : Ctx} {sz : Fm} {Q : Exit → Act → World → Prop} {t : List Item} {s : List (Nat × AV)} {V : List NEnt} {ops : Array Oper} {rest : List Oper} {T' n : Nat} {enc : X → List Value} {xs : List X}
end
section
variable {P : Program} {o : Oper} {ρ : Operand → Option AV}
end
end Go.Proofs.Ytglgkcfgjaoabaa.Sy
end
