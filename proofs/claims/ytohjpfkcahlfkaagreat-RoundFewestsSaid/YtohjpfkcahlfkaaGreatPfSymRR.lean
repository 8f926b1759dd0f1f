/- The small logic of symbolic states: rows that own rows. -/
import Derived.Test.YtohjpfkcahlfkaaGreatPfSymQJ
set_option linter.unusedSimpArgs false
set_option linter.unusedVariables false
namespace Go.Proofs.YtohjpfkcahlfkaaGreat.Sy
open Go.RowKit
def rowsO {X : Type} (E Ei si : Nat) (en : X → List D) (xs : List (List X)) (hole : Option Nat) : Inv :=
  ⟨fun W O R v => ∃ (us : List Value) (Oo : Nat → Prop) (Os : Nat → Nat → Prop), us.length = xs.length ∧ (NEnt.row 0 E 1 (us.map fun u => [D.v u])).holds (fun _ => v) W Oo R ∧ (∀ b, Oo b → O b) ∧ (∀ j b, Os j b → O b ∧ ¬ Oo b) ∧ (∀ i j b, i ≠ j → Os i b → Os j b → False) ∧
      ∀ (j : Nat) (u : Value) (x : List X), us[j]? = some u → xs[j]? = some x → hole ≠ some j → (NEnt.row 0 Ei si (x.map en)).holds (fun _ => u) W (Os j) R,
   fun W W' O R R' hO hR v ⟨us, Oo, Os, h1, h2, h3, h4, h5, h6⟩ => ⟨us, Oo, Os, h1, NEnt.holds_keep (fun b hb => hO b (h3 b hb)) hR h2, h3, h4, h5, fun j u x hu hx hh => NEnt.holds_keep (fun b hb => hO b (h4 j b hb).1) hR (h6 j u x hu hx hh)⟩⟩
theorem outer_read {E : Nat} {us : List Value} {W : World} {O R : Nat → Prop} {v : Value} (h : (NEnt.row 0 E 1 (us.map fun u => [D.v u])).holds (fun _ => v) W O R) :
    ∃ a cap, v = .slice a us.length cap ∧ (a = none → cap = 0) ∧ us.length ≤ cap ∧ cap ≤ maxLen ∧ ∀ (j : Nat) (u : Value), us[j]? = some u → ∃ b o, a = some ⟨b, o, none⟩ ∧ (R b ∨ O b) ∧ W.cell? ⟨b, o + j, none⟩ = some u ∧ u.oneCell' = true := by
  obtain ⟨a, cap, h1, h2, h3, h4, h5⟩ := row_read isOwn h;rw [List.length_map] at h1 h2;refine ⟨a, cap, h1, h4, h2, h3, fun j u hu => ?_⟩;obtain ⟨b, o, ha, hb, u', hc, hok, hone⟩ := (h5 j [D.v u] (by rw [List.getElem?_map, hu]; rfl)).2 0 (D.v u) rfl;have e : u' = u := hok;subst e;exact ⟨b, o, ha, hb, by simpa using hc, hone⟩
theorem rowsO_froz {X : Type} {E Ei si : Nat} {en : X → List D} {ev : List X → List D} {xs : List (List X)} {W : World} {O R R' : Nat → Prop} {v : Value} (hev : ∀ x, ev x = [D.s si (x.map en)]) (hO : ∀ b, O b → R' b) (hR : ∀ b, R b → R' b) (h : (rowsO E Ei si en xs none).ok W O R v) : reads 1 (xs.map ev) W R' v := by
  obtain ⟨us, Oo, Os, h1, h2, h3, h4, h5, h6⟩ := h;obtain ⟨a, cap, g1, g2, g3, g4, g5⟩ := outer_read h2;refine ⟨a, cap, by rw [List.length_map, ← h1]; exact g1, by rw [List.length_map, ← h1]; exact g3, g4, g2, fun i el hi => ?_⟩;rw [List.getElem?_map] at hi
  cases hx : xs[i]? with
  | none => rw [hx] at hi; cases hi
  | some x =>
    rw [hx] at hi;cases hi;rw [hev];refine ⟨rfl, fun j d hj => ?_⟩
    cases j with
    | succ j => simp at hj
    | zero =>
      simp at hj;subst hj;have hlt : i < us.length := by rw [h1]; exact (List.getElem?_eq_some_iff.1 hx).1
      obtain ⟨b, o, ha, hb, hc, hone⟩ := g5 i us[i] (List.getElem?_eq_getElem hlt);refine ⟨b, o, ha, hb.elim (hR b) (fun h => hO b (h3 b h)), us[i], by simpa using hc, ?_, hone⟩;exact row_ro (env := fun _ => us[i]) (fun b hb => hO b (h4 i b hb).1) hR (h6 i _ x (List.getElem?_eq_getElem hlt) hx (by simp))
section
variable {P : Program} {c : Ctx} {sz : Fm} {Q : Exit → Act → World → Prop} {t : List Item} {s : List (Nat × AV)} {V : List NEnt} {ops : Array Oper} {rest : List Oper}
theorem thawRR {X : Type} {n E Ei si : Nat} {en : X → List D} {ev : List X → List D} {xs : List (List X)} (k : Nat) (hk : V[k]? = some (.inv n (rowsO E Ei si en xs none))) (hev : ∀ x, ev x = [D.s si (x.map en)]) {env : Env} {W : World} {O : Nat → Nat → Prop} {R : Nat → Prop} (h : St c env V W O R) :
    ∃ O' R', St c env (V.set k (.ro n 1 (xs.map ev))) W O' R' := by
  have hlt := (List.getElem?_eq_some_iff.1 hk).1;have hh := h.holds _ (List.mem_of_getElem? hk);have h1 := h.freeze k hk;have hk2 : (V.set k (NEnt.inv n (rowsO E Ei si en xs none)).toRo)[k]? = some (.any n (rowsO E Ei si en xs none).froz) := by rw [List.getElem?_set_self hlt]; rfl
  have h2 := h1.write (y := .ro n 1 (xs.map ev)) k hk2 (Keep.refl _ _) rfl (rowsO_froz hev (fun b hb => .inr hb) (fun b hb => .inl hb) hh);rw [List.set_set] at h2;exact ⟨_, _, h2⟩
theorem TC.freezeRR {X : Type} {n E Ei si : Nat} {en : X → List D} {ev : List X → List D} {xs : List (List X)} (k : Nat) (hk : V[k]? = some (.inv n (rowsO E Ei si en xs none))) (hev : ∀ x, ev x = [D.s si (x.map en)]) (h : TC P c sz Q t s (V.set k (.ro n 1 (xs.map ev)))) : TC P c sz Q t s V :=
  fun env tm W O R hf hst => by obtain ⟨O', R', h2⟩ := thawRR k hk hev hst; exact h env tm W O' R' hf h2
theorem TL.freezeRR {X : Type} {n E Ei si : Nat} {en : X → List D} {ev : List X → List D} {xs : List (List X)} (k : Nat) (hk : V[k]? = some (.inv n (rowsO E Ei si en xs none))) (hev : ∀ x, ev x = [D.s si (x.map en)]) (h : TL P c sz Q ops rest t s (V.set k (.ro n 1 (xs.map ev)))) : TL P c sz Q ops rest t s V :=
  fun env tm W O R hf hst => by obtain ⟨O', R', h2⟩ := thawRR k hk hev hst; exact h env tm W O' R' hf h2
end
section
variable {P : Program} {s : List (Nat × AV)} {o : Oper} {ρ : Operand → Option AV}
theorem sp_makeRows {X : Type} {T E Ei si bytes : Nat} (r : Nat) {x y : Operand} {k1 k2 : IntKind} {n : Int} {en : X → List D} {xs : List (List X)} (ho : o.op = .makeSlice T x y) (hx : ρ x = some (.val (.int k1 n))) (hy : ρ y = some (.val (.int k2 n))) (hT : SlT P T E 1 bytes)
    (h0 : decide (0 ≤ n) = true) (hroom : room bytes n.toNat = true) (hz : ∀ w, (zeroValue E).run P w = .ok (.slice none 0 0) w) (he : List.replicate n.toNat [] = xs) : OpSpec P o ρ [] (.ref r) [.inv r (rowsO E Ei si en xs none)] := by
  subst he;intro ev env W O R hev hn hO hR;refine (sp_makeSlice (P := P) (els := List.replicate n.toNat [D.v (.slice none 0 0)]) r ho hx hy hT h0 hroom hz rfl rfl ev env W O R hev hn hO hR).mono ?_
  rintro u W' ⟨env', O', R', he', hu, hst⟩
  refine ⟨env', O', R', fun m hm => he' m (fun z hz2 => by rw [List.mem_singleton] at hz2; subst hz2; exact hm (.inv r (rowsO E Ei si en (List.replicate n.toNat []) none)) (by simp)), hu, ?_⟩;have hrow := hst.holds (.row r E 1 (List.replicate n.toNat [D.v (.slice none 0 0)])) (by simp);have h2 := hst.write (y := .inv r (rowsO E Ei si en (List.replicate n.toNat []) none)) 0 rfl (Keep.refl _ _) rfl ?_
  · exact h2
  · refine ⟨List.replicate n.toNat (.slice none 0 0), O' r, fun _ _ => False, by simp, ?_, fun b hb => hb, fun _ _ hb => hb.elim, fun _ _ _ _ hb => hb.elim, fun j u x hu hx _ => ?_⟩
    · rw [List.map_replicate];exact hrow
    · rw [List.getElem?_replicate] at hu hx
      split at hu
      · cases hu;rw [if_pos (by assumption)] at hx;cases hx;exact row_nil_holds _ _ _ _ rfl _ _ _
      · cases hu
theorem sp_indexO {X : Type} {T E Ei si bytes n : Nat} {x i : Operand} {k : IntKind} {iv : Int} {en : X → List D} {xs : List (List X)} {hole : Option Nat} {y : NEnt} (ho : o.op = .indexAddr T x i) (hx : ρ x = some (.ref n)) (hi : ρ i = some (.val (.int k iv))) (hy : y = .inv n (rowsO E Ei si en xs hole)) (hT : SlT P T E 1 bytes)
    {l : List X} (h0 : decide (0 ≤ iv) = true) (he : xs[iv.toNat]? = some l) : OpSpec P o ρ [y] (.cell n iv.toNat) [] := by
  subst hy;refine .pure fun ev env W O R hev hn => ?_
  obtain ⟨us, Oo, Os, h1, h2, _⟩ := hn _ (List.mem_singleton.2 rfl);obtain ⟨ad, cap, g1, g2, g3, g4, g5⟩ := outer_read h2;obtain ⟨ti, z, hti, _, hts, _, _⟩ := hT.info;have h0' : 0 ≤ iv := of_decide_eq_true h0;have hlt' : iv < us.length := by
    have := (List.getElem?_eq_some_iff.1 he).1
    omega
  cases ad with
  | none => have := g2 rfl; omega
  | some ad =>
    have hx' := hev x _ hx;simp only [AV.den, g1, oneOf] at hx';simp [execOp, ho, hx', hev i _ hi, AV.den, Instr.indexAt, asIntOf, run_underlying hT.under, sizeOf, typeInfo, hti, hts, h0', hlt', g1, cellAt]
theorem ts_loadO {X : Type} {T n j E Ei si : Nat} (m : Nat) {x : Operand} {en : X → List D} {xs : List (List X)} {l : List X} {rs : List (List D)} (ho : o.op = .load T x) (hx : rho s x = some (.cell n j)) (hT : VarT P T 1 false) (hl : xs[j]? = some l) (hrs : l.map en = rs) (hmn : (m == n) = false) :
    TSpec P o (rho s) [.inv n (rowsO E Ei si en xs none)] [] (.ref m) [.inv n (rowsO E Ei si en xs (some j)), .row m Ei si rs] := by
  subst hrs;intro evl c env W0 W O R he hst ht hnd hnn;have hm := ht _ (List.mem_singleton.2 rfl);obtain ⟨us, Oo, Os, h1, h2, h3, h4, h5, h6⟩ := hst.holds _ hm;obtain ⟨ad, cap, g1, g2, g3, g4, g5⟩ := outer_read h2;have hmne : m ≠ n := by simpa using hmn
  have hmV : hasV m W0 = false := by
    rcases hnn (.row m Ei si (l.map en)) (by simp) with h | h
    · simp [NEnt.name, hmne] at h
    · exact h
  have hlt : j < us.length := by rw [h1]; exact (List.getElem?_eq_some_iff.1 hl).1
  obtain ⟨b, off, ha, _, hcell, hone⟩ := g5 j us[j] (List.getElem?_eq_getElem hlt);subst ha;have hrj := h6 j us[j] l (List.getElem?_eq_getElem hlt) hl (by simp);have hv1 : oneOf us[j] = us[j] := by
    obtain ⟨a, cap, q1, _⟩ := row_read isOwn hrj;rw [q1]; rfl
  have hx' := he x _ hx;simp only [AV.den, NEnt.name] at hx' g1;rw [cellAt_eq g1] at hx';have hrun : (execOp evl o).run P W = .ok (.value us[j]) W := by
    simp [execOp, ho, hx', Instr.loadAt, Instr.sureAddr, loadVar, hT.isAgg, hcell]
  rw [hrun];have hn1 : setEnv env m us[j] n = env n := setEnv_other hmne
  have henv : ∀ q, (∀ y ∈ [NEnt.inv n (rowsO E Ei si en xs (some j)), NEnt.row m Ei si (l.map en)], y.name ∉ [NEnt.inv n (rowsO E Ei si en xs none)].map NEnt.name → y.name ≠ q) → setEnv env m us[j] q = env q := fun q hq =>
    setEnv_other (hq (.row m Ei si (l.map en)) (by simp) (by simp [NEnt.name, hmne]))
  have hnv : ∀ y ∈ [NEnt.inv n (rowsO E Ei si en xs (some j)), NEnt.row m Ei si (l.map en)], y.name ∈ [NEnt.inv n (rowsO E Ei si en xs none)].map NEnt.name ∨ hasV y.name W0 = false := fun y hy => by
    simp only [List.mem_cons, List.not_mem_nil, or_false] at hy;rcases hy with rfl | rfl
    · exact .inl (by simp [NEnt.name])
    · exact .inr hmV
  classical
  suffices hs : ∃ O2, St c (setEnv env m us[j]) ([NEnt.inv n (rowsO E Ei si en xs (some j)), NEnt.row m Ei si (l.map en)] ++ delV ([NEnt.inv n (rowsO E Ei si en xs none)].map NEnt.name) W0) W O2 R by
    obtain ⟨O2, h⟩ := hs;exact ⟨_, O2, R, henv, by simp only [AV.den, setEnv_same]; exact hv1.symm, h⟩
  refine hst.over (take := [.inv n (rowsO E Ei si en xs none)]) (M1 := fun b => O n b) (env' := setEnv env m us[j]) (news := [.inv n (rowsO E Ei si en xs (some j)), .row m Ei si (l.map en)]) (W' := W) (R' := R)
    (O' := fun q b => if q = m then Os j b else O n b ∧ ¬ Os j b) ht (fun b hb => ⟨_, List.mem_singleton.2 rfl, hb⟩) ⟨Keep.refl _ _, fun y hy => ?_, fun y hy b hb => ?_, fun y hy z hz hne b hb => ?_, fun b hb => ⟨(hst.ro b hb).1, .inr (.inl hb)⟩, fun _ h => h, ?_⟩ henv hnv
  · simp only [List.mem_cons, List.not_mem_nil, or_false] at hy;rcases hy with rfl | rfl
    · simp only [NEnt.holds, NEnt.name, hn1, Ne.symm hmne, if_false];refine ⟨us, Oo, fun q b => Os q b ∧ ¬ Os j b, h1, h2, fun b hb => ⟨h3 b hb, fun h => (h4 j b h).2 hb⟩, fun q b hq => ⟨⟨(h4 q b hq.1).1, hq.2⟩, (h4 q b hq.1).2⟩, fun q q' b hne h h' => h5 q q' b hne h.1 h'.1, fun q u y hu hy hh => ?_⟩;have hqj : q ≠ j := fun e => hh (by rw [e])
      have e2 : (fun b => Os q b ∧ ¬ Os j b) = Os q := by
        funext b; exact propext ⟨fun h => h.1, fun h => ⟨h, fun h' => h5 q j b hqj h h'⟩⟩
      show (NEnt.row 0 Ei si (y.map en)).holds (fun _ => u) W (fun b => Os q b ∧ ¬ Os j b) R;rw [e2]; exact h6 q u y hu hy (by simp)
    · simp only [NEnt.name, if_true];simp only [NEnt.holds, setEnv_same] at hrj ⊢;exact hrj
  · simp only [List.mem_cons, List.not_mem_nil, or_false] at hy;have hb' : O n b := by
      rcases hy with rfl | rfl
      · simp only [NEnt.name, Ne.symm hmne, if_false] at hb; exact hb.1
      · simp only [NEnt.name, if_true] at hb; exact (h4 j b hb).1
    obtain ⟨q1, q2, q3⟩ := hst.own _ hm b hb';exact ⟨q1, .inr hb', q3⟩
  · simp only [List.mem_cons, List.not_mem_nil, or_false] at hy hz;rcases hy with rfl | rfl <;> rcases hz with rfl | rfl
    · exact hne rfl
    · simp only [NEnt.name, Ne.symm hmne, if_false, if_true] at hb; exact hb.1.2 hb.2
    · simp only [NEnt.name, Ne.symm hmne, if_false, if_true] at hb; exact hb.2.2 hb.1
    · exact hne rfl
  · simp [NEnt.name, Ne.symm hmne]
theorem flat_val {v : Value} (h : v.oneCell' = true) : (AV.val v).flat = true := h
theorem ts_storeO {X : Type} {T n m j E Ei si : Nat} {x y : Operand} {en : X → List D} {xs ys : List (List X)} {rs : List (List D)} (l : List X) {l0 : List X} (ho : o.op = .store T x y) (hx : rho s x = some (.cell n j)) (hy : rho s y = some (.ref m)) (hT : VarT P T 1 false) (hrs : rs = l.map en) (hj : xs[j]? = some l0) (hmn : (m == n) = false) (hys : xs.set j l = ys) :
    TSpec P o (rho s) [.inv n (rowsO E Ei si en xs (some j)), .row m Ei si rs] [] (.val undef) [.inv n (rowsO E Ei si en ys none)] := by
  subst hrs; subst hys;intro evl c env W0 W O R he hst ht hnd hnn;have hm := ht (.inv n (rowsO E Ei si en xs (some j))) (by simp);have hr := ht (.row m Ei si (l.map en)) (by simp);have hmne : m ≠ n := by simpa using hmn
  have hjx : j < xs.length := (List.getElem?_eq_some_iff.1 hj).1;obtain ⟨us, Oo, Os, h1, h2, h3, h4, h5, h6⟩ := hst.holds _ hm;have hrw := hst.holds _ hr;simp only [NEnt.name] at h2 h3 h4;have hone : oneOf (env m) = env m ∧ (env m).oneCell' = true := by
    obtain ⟨a, cap, q1, _⟩ := row_read isOwn hrw;rw [q1]; exact ⟨rfl, rfl⟩
  have hjl : j < us.length := by omega
  -- the outer row alone
  have hA : St ⟨W, Oo, R⟩ env [.row n E 1 (us.map fun u => [D.v u])] W (fun _ => Oo) R := by
    refine ⟨Keep.refl _ _, fun z hz => ?_, fun z hz b hb => ?_, fun z hz z2 hz2 hne => ?_, fun b hb => ⟨(hst.ro b hb).1, .inr (.inl hb)⟩, fun _ hb => hb, by simp⟩
    · rw [List.mem_singleton] at hz; subst hz;exact h2
    · obtain ⟨q1, q2, q3⟩ := hst.own _ hm b (h3 b hb);exact ⟨q1, .inr hb, q3⟩
    · rw [List.mem_singleton] at hz hz2; subst hz; subst hz2; exact absurd rfl hne
  have hxy : x ≠ y := fun e => by rw [e, hy] at hx; cases hx
  classical
  have hcore := coreR (P := P) (o := o) (ρ := fun z => if z = y then some (.val (env m)) else if z = x then some (.cell n j) else none) (ev := evl) (fun z a hz => by
    have hz : (if z = y then some (AV.val (env m)) else if z = x then some (AV.cell n j) else none) = some a := hz
    split at hz
    · rename_i e; cases hz; rw [e, he y _ hy]; exact hone.1
    · split at hz
      · rename_i e; cases hz; rw [e]; exact he x _ hx
      · cases hz) hA 0 (T := T) (n := n) (kk := j) (i := j) (j := 0) (size := 1) (E := E) (x := x) (y := y) (el := [D.v us[j]]) (ds := [D.v (env m)]) (a := .val (env m)) (need := []) ho (by simp [hxy]) rfl (by simp) (flat_val hone.2) hT.sizeOf (by omega) (by rw [List.getElem?_map, List.getElem?_eq_getElem hjl]; rfl) (Nat.le_refl 1) (by decide) (by simp) (.v .nil)
  refine hcore.mono ?_
  rintro u W' ⟨rfl, hB⟩
  simp only [List.set_cons_zero] at hB;have hrow := hB.holds _ (List.mem_singleton.2 rfl);have hset : (us.map fun u => [D.v u]).set j (([D.v us[j]] : List D).take 0 ++ [D.v (env m)] ++ ([D.v us[j]] : List D).drop (0 + [D.v (env m)].length)) = (us.set j (env m)).map fun u => [D.v u] := by
    rw [List.map_set]; rfl
  rw [hset] at hrow;have hkeep := hB.keep;have hOn : ∀ b, O n b → b < W.heap.size := fun b hb => (hst.own _ hm b hb).1
  have hOm : ∀ b, O m b → b < W.heap.size ∧ ¬ O n b := fun b hb => ⟨(hst.own _ hr b hb).1, fun h => hst.apart _ hm _ hr (by simp [NEnt.name, Ne.symm hmne]) b ⟨h, hb⟩⟩
  have hkR : ∀ b, R b → R b ∧ W'.heap[b]? = W.heap[b]? := fun b hb => ⟨hb, hkeep.block b (hst.ro b hb).1 fun h => (hst.own _ hm b (h3 b h)).2.2 hb⟩
  suffices hs : ∃ O2, St c env ([NEnt.inv n (rowsO E Ei si en (xs.set j l) none)] ++ delV ([NEnt.inv n (rowsO E Ei si en xs (some j)), NEnt.row m Ei si (l.map en)].map NEnt.name) W0) W' O2 R by
    obtain ⟨O2, h⟩ := hs;exact ⟨env, O2, R, fun _ _ => rfl, rfl, h⟩
  refine hst.over (take := [NEnt.inv n (rowsO E Ei si en xs (some j)), NEnt.row m Ei si (l.map en)]) (M1 := fun b => O n b ∨ O m b) (env' := env) (news := [.inv n (rowsO E Ei si en (xs.set j l) none)]) (W' := W') (R' := R)
    (O' := fun _ b => O n b ∨ O m b) ht (fun b hb => hb.elim (fun h => ⟨NEnt.inv n (rowsO E Ei si en xs (some j)), by simp, h⟩) (fun h => ⟨NEnt.row m Ei si (l.map en), by simp, h⟩)) ⟨⟨hkeep.os, hkeep.tape, hkeep.output, hkeep.size, fun b hb hn => hkeep.block b hb fun h => hn (.inl (h3 b h))⟩, fun z hz => ?_, fun z hz b hb => ?_, fun z hz z2 hz2 hne b hb => ?_, fun b hb => ⟨Nat.lt_of_lt_of_le (hst.ro b hb).1 hkeep.size, .inr (.inl hb)⟩, fun _ h => h, by simp⟩ (fun _ _ => rfl) (fun z hz => by
      simp only [List.mem_singleton] at hz; subst hz; exact .inl (by simp [NEnt.name]))
  · simp only [List.mem_singleton] at hz;subst hz;refine ⟨us.set j (env m), Oo, fun q b => if q = j then O m b else Os q b ∧ q ≠ j, by rw [List.length_set, List.length_set]; exact h1, hrow, fun b hb => .inl (h3 b hb), fun q b hq => ?_, fun q q' b hne hq hq' => ?_, fun q u y2 hu hy2 _ => ?_⟩
    · dsimp only at hq
      split at hq
      · exact ⟨.inr hq, fun h => (hOm b hq).2 (h3 b h)⟩
      · exact ⟨.inl (h4 q b hq.1).1, (h4 q b hq.1).2⟩
    · dsimp only at hq hq'
      split at hq <;> split at hq'
      · rename_i a b; exact hne (a.trans b.symm)
      · exact (hOm b hq).2 (h4 q' b hq'.1).1
      · exact (hOm b hq').2 (h4 q b hq.1).1
      · exact h5 q q' b hne hq.1 hq'.1
    · rw [List.getElem?_set] at hu hy2
      by_cases e : j = q
      · subst e;rw [if_pos rfl, if_pos hjl] at hu;rw [if_pos rfl, if_pos hjx] at hy2;cases hu; cases hy2
        have : (NEnt.row m Ei si (l.map en)).holds env W' (O m) R := NEnt.holds_keep (fun b hb => hkeep.block b (hOm b hb).1 fun h => (hOm b hb).2 (h3 b h)) hkR hrw;simp only [NEnt.holds, if_true] at this ⊢;exact this
      · rw [if_neg e] at hu hy2;have h7 := h6 q u y2 hu hy2 (by simpa using e);have h8 : (NEnt.row 0 Ei si (y2.map en)).holds (fun _ => u) W' (Os q) R := NEnt.holds_keep (fun b hb => hkeep.block b (hOn b (h4 q b hb).1) fun h => (h4 q b hb).2 h) hkR h7;have e5 : (fun b => if q = j then O m b else Os q b ∧ q ≠ j) = Os q := by
          funext b
          rw [if_neg (Ne.symm e)];exact propext ⟨fun h => h.1, fun h => ⟨h, Ne.symm e⟩⟩
        show (NEnt.row 0 Ei si (y2.map en)).holds (fun _ => u) W' (fun b => if q = j then O m b else Os q b ∧ q ≠ j) R;rw [e5]; exact h8
  · rcases hb with hb | hb
    · obtain ⟨q1, q2, q3⟩ := hst.own _ hm b hb; exact ⟨Nat.lt_of_lt_of_le q1 hkeep.size, .inr (.inl hb), q3⟩
    · obtain ⟨q1, q2, q3⟩ := hst.own _ hr b hb; exact ⟨Nat.lt_of_lt_of_le q1 hkeep.size, .inr (.inr hb), q3⟩
  · simp only [List.mem_singleton] at hz hz2;subst hz; subst hz2; exact hne rfl
end
end Go.Proofs.YtohjpfkcahlfkaaGreat.Sy
