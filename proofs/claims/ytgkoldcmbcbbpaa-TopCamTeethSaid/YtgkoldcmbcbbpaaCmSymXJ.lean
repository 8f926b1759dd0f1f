/- Texts joined into one: SymX, SymY, SymZ, SymPt, SymRR, SymRS, SymTu. -/
import Derived.Test.YtgkoldcmbcbbpaaCmSymQJ
import Derived.Shelf.Sort.Plain
import Derived.Shelf.Slices.In.SortNone
section
set_option linter.unusedSimpArgs false
set_option linter.unusedVariables false
namespace Go.Proofs.Ytgkoldcmbcbbpaa.Sy
open Go.RowKit
def mapO {κ X : Type} (ek : κ → Value) (E size : Nat) (en : X → List D) (xs : List (κ × List X)) (hole : Option κ) : Inv :=
  ⟨fun W O R v => ∃ (r cl : Nat) (es : Array MapEntry) (ys : List (κ × List X)) (Os : Nat → Nat → Prop), v = .map (some r) ∧ O r ∧ W.heap[r]? = some (.map es cl) ∧ MapOk es.toList cl ys xs ∧ es.toList.map (·.key) = (ys.map (·.1)).map ek ∧
      (∀ i b, Os i b → O b ∧ b ≠ r) ∧ (∀ i j b, i ≠ j → Os i b → Os j b → False) ∧ ∀ (i : Nat) (e : MapEntry) (x : κ × List X), es.toList[i]? = some e → ys[i]? = some x → hole ≠ some x.1 → (NEnt.row 0 E size (x.2.map en)).holds (fun _ => e.val) W (Os i) R,
   fun W W' O R R' hO hR v ⟨r, cl, es, ys, Os, h1, h2, h3, h4, h5, h6, h7, h8⟩ => ⟨r, cl, es, ys, Os, h1, h2, (hO r h2).trans h3, h4, h5, h6, h7, fun i e x he hx hh => NEnt.holds_keep (fun b hb => hO b (h6 i b hb).1) hR (h8 i e x he hx hh)⟩⟩
theorem EsOk.of {κ ν : Type} {ek : κ → Value} {ag : Bool} {ev : ν → List D} {W : World} {R : Nat → Prop} : ∀ {es : List MapEntry} {xs : List (κ × ν)}, es.map (·.key) = (xs.map (·.1)).map ek → (∀ (i : Nat) (e : MapEntry) (x : κ × ν), es[i]? = some e → xs[i]? = some x → VOk ag (ev x.2) W R e.val) → EsOk ek ag ev W R es xs := by
  intro es
  induction es with
  | nil => intro xs h _; cases xs with
    | nil => exact .nil
    | cons => simp at h
  | cons a l ih =>
    intro xs h hv
    cases xs with
    | nil => simp at h
    | cons x xs =>
      simp only [List.map_cons, List.cons.injEq] at h;exact .cons h.1 (hv 0 a x rfl rfl) (ih h.2 fun i e y he hy => hv (i + 1) e y he hy)
theorem reads_one {size : Nat} {els : List (List D)} {W : World} {R : Nat → Prop} {v : Value} (h : reads size els W R v) : VOk false [D.s size els] W R v := by
  obtain ⟨a, cap, h1, h2⟩ := h;have hone : v.oneCell' = true := by rw [h1]; rfl
  refine ⟨[v], cells_one hone, rfl, rfl, fun j d hj => ?_⟩
  cases j with
  | zero => simp at hj; subst hj; exact ⟨v, rfl, ⟨a, cap, h1, h2⟩, hone⟩
  | succ j => simp at hj
theorem mapO_froz {κ X : Type} {ek : κ → Value} {E size : Nat} {en : X → List D} {ev : List X → List D} {xs : List (κ × List X)} {W : World} {O R R' : Nat → Prop} {v : Value} (hev : ∀ x, ev x = [D.s size (x.map en)]) (hO : ∀ b, O b → R' b) (hR : ∀ b, R b → R' b) (h : (mapO ek E size en xs none).ok W O R v) :
    (mapI ek false ev xs).froz.ok W R' v := by
  obtain ⟨r, cl, es, ys, Os, h1, h2, h3, h4, h5, h6, h7, h8⟩ := h;refine ⟨fun b => b = r, fun b hb => hb ▸ hO r h2, r, cl, es, ys, h1, rfl, h3, EsOk.of h5 fun i e x he hx => ?_, h4⟩;rw [hev];exact reads_one (row_ro (env := fun _ => e.val) (fun b hb => hO b (h6 i b hb).1) hR (h8 i e x he hx (by simp)))
section
variable {P : Program} {c : Ctx} {sz : Fm} {Q : Exit → Act → World → Prop} {t : List Item} {s : List (Nat × AV)} {V : List NEnt} {ops : Array Oper} {rest : List Oper}
theorem thawO {κ X : Type} {n E size : Nat} {ek : κ → Value} {en : X → List D} {ev : List X → List D} {xs : List (κ × List X)} (k : Nat) (hk : V[k]? = some (.inv n (mapO ek E size en xs none))) (hev : ∀ x, ev x = [D.s size (x.map en)]) {env : Env} {W : World} {O : Nat → Nat → Prop} {R : Nat → Prop} (h : St c env V W O R) :
    ∃ O' R', St c env (V.set k (.any n (mapI ek false ev xs).froz)) W O' R' := by
  have hlt := (List.getElem?_eq_some_iff.1 hk).1;have hh := h.holds _ (List.mem_of_getElem? hk);have h1 := h.freeze k hk;have hk2 : (V.set k (NEnt.inv n (mapO ek E size en xs none)).toRo)[k]? = some (.any n (mapO ek E size en xs none).froz) := by rw [List.getElem?_set_self hlt]; rfl
  have h2 := h1.write (y := .any n (mapI ek false ev xs).froz) k hk2 (Keep.refl _ _) rfl (mapO_froz hev (fun b hb => .inr hb) (fun b hb => .inl hb) hh);rw [List.set_set] at h2;exact ⟨_, _, h2⟩
theorem TC.freezeO {κ X : Type} {n E size : Nat} {ek : κ → Value} {en : X → List D} {ev : List X → List D} {xs : List (κ × List X)} (k : Nat) (hk : V[k]? = some (.inv n (mapO ek E size en xs none))) (hev : ∀ x, ev x = [D.s size (x.map en)]) (h : TC P c sz Q t s (V.set k (.any n (mapI ek false ev xs).froz))) : TC P c sz Q t s V :=
  fun env tm W O R hf hst => by obtain ⟨O', R', h2⟩ := thawO k hk hev hst; exact h env tm W O' R' hf h2
theorem TL.freezeO {κ X : Type} {n E size : Nat} {ek : κ → Value} {en : X → List D} {ev : List X → List D} {xs : List (κ × List X)} (k : Nat) (hk : V[k]? = some (.inv n (mapO ek E size en xs none))) (hev : ∀ x, ev x = [D.s size (x.map en)]) (h : TL P c sz Q ops rest t s (V.set k (.any n (mapI ek false ev xs).froz))) : TL P c sz Q ops rest t s V :=
  fun env tm W O R hf hst => by obtain ⟨O', R', h2⟩ := thawO k hk hev hst; exact h env tm W O' R' hf h2
end
section
variable {P : Program} {s : List (Nat × AV)} {o : Oper} {ρ : Operand → Option AV}
theorem sp_makeMapO {κ X : Type} {M E size : Nat} (n : Nat) {ek : κ → Value} {en : X → List D} (xs : List (κ × List X)) (hx : xs = []) (ho : o.op = .makeMap M none) : OpSpec P o ρ [] (.ref n) [.inv n (mapO ek E size en xs none)] := by
  subst hx;intro evl env W O R he _ _ hR;have : (execOp evl o).run P W = .ok (.value (.map (some W.heap.size))) (W.alloc (.map #[] 0)) := by
    simp [execOp, ho, Instr.makeMap, run_newObj_alloc]
  rw [this];refine ⟨setEnv env n (.map (some W.heap.size)), fun _ b => b = W.heap.size, R, fun m hm => setEnv_other (hm _ (List.mem_singleton.2 rfl)), by simp [AV.den, setEnv_same, oneOf], ?_⟩;refine St.fresh (keep_alloc W _) hR ?_ (fun b hb => by subst hb; simp);simp only [NEnt.holds, setEnv_same];exact ⟨_, 0, #[], [], fun _ _ => False, rfl, rfl, World.alloc_heap_new W _, ⟨.refl _, List.nodup_nil, BornOk.nil 0⟩, rfl, fun _ _ h => h.elim, fun _ _ _ _ h => h.elim, fun i e x he => by simp at he⟩
theorem row_nil_holds (E size : Nat) (env : Env) (n : Nat) (hv : env n = .slice none 0 0) (W : World) (O R : Nat → Prop) : (NEnt.row n E size []).holds env W O R := by
  simp only [NEnt.holds, hv];exact ⟨by simp, [], World.ownsRow_nil _ _ _ _, by simp [Value.ownBlock], by simp⟩
theorem ts_lookupO {κ X : Type} [BEq κ] [LawfulBEq κ] {M K V n E size : Nat} (m : Nat) {x i : Operand} {ek : κ → Value} {en : X → List D} {xs : List (κ × List X)} (k : κ) {ka : AV} {rs : List (List D)} (ho : o.op = .lookup M x i false) (hx : rho s x = some (.ref n)) (hi : rho s i = some ka) (hka : ∀ e, ka.den e = ek k) (hk : MKey P M K V ek)
    (hz : ∀ w, (zeroValue V).run P w = .ok (.slice none 0 0) w) (hrs : rs = ((mlook xs k).getD []).map en) (hmn : (m == n) = false) :
    TSpec P o (rho s) [.inv n (mapO ek E size en xs none)] [] (.ref m) [.inv n (mapO ek E size en xs (some k)), .row m E size rs] := by
  subst hrs;intro evl c env W0 W O R he hst ht hnd hnn;have hm := ht _ (List.mem_singleton.2 rfl);obtain ⟨r, cl, es, ys, Os, h1, hOr, h2, ⟨hp, hnd', hb⟩, hke, hO1, hO2, hrow⟩ := hst.holds _ hm;have hmne : m ≠ n := by simpa using hmn
  have hmV : hasV m W0 = false := by
    rcases hnn (.row m E size (((mlook xs k).getD []).map en)) (by simp) with h | h
    · simp [NEnt.name, hmne] at h
    · exact h
  have hx' := he x _ hx;simp only [AV.den, NEnt.name] at hx' h1;simp only [h1, oneOf] at hx';have hi' := he i _ hi;rw [hka] at hi';have hf := hk.find k es.toList (ys.map (·.1)) W hke;have hnv : ∀ y ∈ [NEnt.inv n (mapO ek E size en xs (some k)), NEnt.row m E size (((mlook xs k).getD []).map en)], y.name ∈ [NEnt.inv n (mapO ek E size en xs none)].map NEnt.name ∨ hasV y.name W0 = false := fun y hy => by
    simp only [List.mem_cons, List.not_mem_nil, or_false] at hy;rcases hy with rfl | rfl
    · exact .inl (by simp [NEnt.name])
    · exact .inr hmV
  -- the split of what is owned
  have key : ∀ (v : Value) (J : Nat → Prop), oneOf v = v → (∀ b, J b → O n b ∧ b ≠ r) → ((NEnt.row m E size (((mlook xs k).getD []).map en)).holds (setEnv env m v) W J R) →
      (∀ (i : Nat) (e : MapEntry) (x : κ × List X), es.toList[i]? = some e → ys[i]? = some x → x.1 ≠ k → ∀ b, Os i b → ¬ J b) →
      (execOp evl o).run P W = .ok (.value v) W → Does P ((execOp evl o).run P W) fun u W' => ∃ env' O' R', (∀ q, (∀ y ∈ [NEnt.inv n (mapO ek E size en xs (some k)), NEnt.row m E size (((mlook xs k).getD []).map en)], y.name ∉ [NEnt.inv n (mapO ek E size en xs none)].map NEnt.name → y.name ≠ q) → env' q = env q) ∧ u = (AV.ref m).den env' ∧
        St c env' ([NEnt.inv n (mapO ek E size en xs (some k)), NEnt.row m E size (((mlook xs k).getD []).map en)] ++ delV ([NEnt.inv n (mapO ek E size en xs none)].map NEnt.name) W0) W' O' R' := by
    intro v J hv1 hJ hholds hdis hrun;rw [hrun]
    have henv : ∀ q, (∀ y ∈ [NEnt.inv n (mapO ek E size en xs (some k)), NEnt.row m E size (((mlook xs k).getD []).map en)], y.name ∉ [NEnt.inv n (mapO ek E size en xs none)].map NEnt.name → y.name ≠ q) → setEnv env m v q = env q := fun q hq =>
      setEnv_other (hq (.row m E size (((mlook xs k).getD []).map en)) (by simp) (by simp [NEnt.name, hmne]))
    have hn1 : setEnv env m v n = env n := setEnv_other hmne
    classical
    suffices hs : ∃ O2, St c (setEnv env m v) ([NEnt.inv n (mapO ek E size en xs (some k)), NEnt.row m E size (((mlook xs k).getD []).map en)] ++ delV ([NEnt.inv n (mapO ek E size en xs none)].map NEnt.name) W0) W O2 R by
      obtain ⟨O2, h⟩ := hs;exact ⟨_, O2, R, henv, by simp only [AV.den, setEnv_same]; exact hv1.symm, h⟩
    refine hst.over (take := [.inv n (mapO ek E size en xs none)]) (M1 := fun b => O n b) (env' := setEnv env m v) (news := [.inv n (mapO ek E size en xs (some k)), .row m E size (((mlook xs k).getD []).map en)]) (W' := W) (R' := R)
      (O' := fun q b => if q = m then J b else O n b ∧ ¬ J b) ht (fun b hb => ⟨_, List.mem_singleton.2 rfl, hb⟩) ⟨Keep.refl _ _, fun y hy => ?_, fun y hy b hb => ?_, fun y hy z hz hne b hb => ?_, fun b hb => ⟨(hst.ro b hb).1, .inr (.inl hb)⟩, fun _ h => h, ?_⟩ henv hnv
    · simp only [List.mem_cons, List.not_mem_nil, or_false] at hy;rcases hy with rfl | rfl
      · simp only [NEnt.holds, NEnt.name, hn1, Ne.symm hmne, if_false];refine ⟨r, cl, es, ys, fun q b => Os q b ∧ ¬ J b, h1, ⟨hOr, fun h => (hJ r h).2 rfl⟩, h2, ⟨hp, hnd', hb⟩, hke, fun q b h => ⟨⟨(hO1 q b h.1).1, h.2⟩, (hO1 q b h.1).2⟩, fun q q' b hne h h' => hO2 q q' b hne h.1 h'.1, fun q e x he hx hh => ?_⟩;have hxk : x.1 ≠ k := fun e => hh (by rw [e])
        have := hrow q e x he hx (by simp);have e2 : (fun b => Os q b ∧ ¬ J b) = Os q := by
          funext b; exact propext ⟨fun h => h.1, fun h => ⟨h, hdis q e x he hx hxk b h⟩⟩
        show (NEnt.row 0 E size (x.2.map en)).holds (fun _ => e.val) W (fun b => Os q b ∧ ¬ J b) R;rw [e2]; exact this
      · simp only [NEnt.name, if_true];exact hholds
    · simp only [List.mem_cons, List.not_mem_nil, or_false] at hy;have hb' : O n b := by
        rcases hy with rfl | rfl
        · simp only [NEnt.name, Ne.symm hmne, if_false] at hb; exact hb.1
        · simp only [NEnt.name, if_true] at hb; exact (hJ b hb).1
      obtain ⟨q1, q2, q3⟩ := hst.own _ hm b hb';exact ⟨q1, .inr hb', q3⟩
    · simp only [List.mem_cons, List.not_mem_nil, or_false] at hy hz;rcases hy with rfl | rfl <;> rcases hz with rfl | rfl
      · exact hne rfl
      · simp only [NEnt.name, Ne.symm hmne, if_false, if_true] at hb; exact hb.1.2 hb.2
      · simp only [NEnt.name, Ne.symm hmne, if_false, if_true] at hb; exact hb.2.2 hb.1
      · exact hne rfl
    · simp [NEnt.name, Ne.symm hmne]
  have hml := mlook_perm hp hnd' k
  cases hfi : (ys.map (·.1)).findIdx? (· == k) with
  | none =>
    rw [hfi] at hf;have hrun : (execOp evl o).run P W = .ok (.value (.slice none 0 0)) W := by
      simp only [execOp, ho, hx', hi', Instr.lookup, Sem.run_bind, run_underlying hk.under, Result.andThen_ok, getObj_map h2, Sem.run_pure, hk.check, hf, Option.bind_none, hz]
      rfl
    have hnone : mlook xs k = none := by rw [← hml]; simp [mlook, mfind, hfi]
    refine key _ (fun _ => False) rfl (fun _ h => h.elim) ?_ (fun _ _ _ _ _ _ _ _ h => h) hrun;rw [hnone];exact row_nil_holds _ _ _ _ (setEnv_same _ _ _) _ _ _
  | some j =>
    have hjl : j < ys.length := by have := (List.findIdx?_eq_some_iff_getElem.1 hfi).1; simpa using this
    have hel : es.toList.length = ys.length := by have := congrArg List.length hke; simpa using this
    have hje : j < es.toList.length := by omega
    have hej : es.toList[j]? = some es.toList[j] := List.getElem?_eq_getElem hje;rw [hfi] at hf;simp only [Option.bind_some, hej, Option.map_some] at hf;have hyj : ys[j]? = some ys[j] := List.getElem?_eq_getElem hjl;have hjk : (ys[j]).1 = k := by
      have := (List.findIdx?_eq_some_iff_getElem.1 hfi).2.1
      simpa using this
    have hsome : mlook xs k = some (ys[j]).2 := by rw [← hml]; simp [mlook, mfind, hfi, hjl]
    have hrj := hrow j _ _ hej hyj (by simp);have hone : oneOf (es.toList[j]).val = (es.toList[j]).val := by
      obtain ⟨a, cap, q1, _⟩ := row_read isOwn hrj;rw [q1]; rfl
    have hrun : (execOp evl o).run P W = .ok (.value (es.toList[j]).val) W := by
      simp only [execOp, ho, hx', hi', Instr.lookup, Sem.run_bind, run_underlying hk.under, Result.andThen_ok, getObj_map h2, Sem.run_pure, hk.check, hf]
      rfl
    refine key _ (Os j) hone (fun b hb => hO1 j b hb) ?_ (fun q e x he hx hxk b hb hJ => ?_) hrun
    · rw [hsome];have := hrj;simp only [NEnt.holds, Option.getD_some, setEnv_same] at this ⊢;exact this
    · have hqj : q ≠ j := fun e => by subst e; rw [hyj] at hx; cases hx; exact hxk hjk
      exact hO2 q j b hqj hb hJ
theorem ts_mapPutO {κ X : Type} [BEq κ] [LawfulBEq κ] {M K V n m E size : Nat} {x i y : Operand} {ek : κ → Value} {en : X → List D} {xs ys : List (κ × List X)} (k : κ) {ka : AV} {rs : List (List D)} (d : List X) (ho : o.op = .mapUpdate M x i y) (hx : rho s x = some (.ref n)) (hi : rho s i = some ka) (hka : ∀ e, ka.den e = ek k) (hy : rho s y = some (.ref m))
    (hk : MKey P M K V ek) (hrs : rs = d.map en) (hmn : (m == n) = false) (hys : (xs.map (·.1)).Nodup → ys.Perm (mput xs k d)) :
    TSpec P o (rho s) [.inv n (mapO ek E size en xs (some k)), .row m E size rs] [] (.val undef) [.inv n (mapO ek E size en ys none)] := by
  subst hrs;intro evl c env W0 W O R he hst ht hnd hnn;have hm := ht (.inv n (mapO ek E size en xs (some k))) (by simp);have hr := ht (.row m E size (d.map en)) (by simp);have hmne : m ≠ n := by simpa using hmn
  obtain ⟨r, cl, es, zs, Os, h1, hOr, h2, ⟨hp, hnd', hb⟩, hke, hO1, hO2, hrow⟩ := hst.holds _ hm;have hrw := hst.holds _ hr;have hys' := hys ((hp.map _).nodup_iff.1 hnd');have hx' := he x _ hx;simp only [AV.den, NEnt.name] at hx' h1 hOr hO1;simp only [h1, oneOf] at hx';have hi' := he i _ hi;rw [hka] at hi';have hy' := he y _ hy;have hone : oneOf (env m) = env m := by
    obtain ⟨a, cap, q1, _⟩ := row_read isOwn hrw;rw [q1]; rfl
  simp only [AV.den, hone] at hy';have hf := hk.find k es.toList (zs.map (·.1)) W hke;have hlt : r < W.heap.size := (Array.getElem?_eq_some_iff.1 h2).1;have hRr : ∀ b, R b → b ≠ r := fun b hb e => (hst.own _ hm r hOr).2.2 (e ▸ hb)
  have hmr : ∀ b, O m b → b ≠ r ∧ ¬ O n b := fun b hb => ⟨fun e => hst.apart _ hm _ hr (by simp [NEnt.name, Ne.symm hmne]) r ⟨hOr, e ▸ hb⟩, fun h => hst.apart _ hm _ hr (by simp [NEnt.name, Ne.symm hmne]) b ⟨h, hb⟩⟩
  have hel : es.toList.length = zs.length := by have := congrArg List.length hke; simpa using this
  have key : ∀ (es' : Array MapEntry) (cl' j : Nat) (zs' : List (κ × List X)), (execOp evl o).run P W = .ok .skip (W.putObj r (.map es' cl')) → zs'.Perm (mput zs k d) → (zs'.map (·.1)).Nodup → BornOk es'.toList cl' → es'.toList.map (·.key) = (zs'.map (·.1)).map ek →
      (∀ (q : Nat) (e : MapEntry) (x : κ × List X), es'.toList[q]? = some e → zs'[q]? = some x → (q = j ∧ e.val = env m ∧ x = (k, d)) ∨ (q ≠ j ∧ es.toList[q]? = some e ∧ zs[q]? = some x ∧ x.1 ≠ k)) →
      Does P ((execOp evl o).run P W) fun u W' => ∃ env' O' R', (∀ q, (∀ y ∈ [NEnt.inv n (mapO ek E size en ys none)], y.name ∉ [NEnt.inv n (mapO ek E size en xs (some k)), NEnt.row m E size (d.map en)].map NEnt.name → y.name ≠ q) → env' q = env q) ∧ u = (AV.val undef).den env' ∧
        St c env' ([NEnt.inv n (mapO ek E size en ys none)] ++ delV ([NEnt.inv n (mapO ek E size en xs (some k)), NEnt.row m E size (d.map en)].map NEnt.name) W0) W' O' R' := by
    intro es' cl' j zs' hrun hpz hndz hbz hkz hcase;rw [hrun];have hkeepR : ∀ b, R b → R b ∧ (W.putObj r (.map es' cl')).heap[b]? = W.heap[b]? := fun b hb => ⟨hb, World.putObj_heap_other (hRr b hb)⟩
    have hp0 : (mput zs k d).Perm (mput xs k d) := mput_perm hp hnd' k d
    classical
    suffices hs : ∃ O2, St c env ([NEnt.inv n (mapO ek E size en ys none)] ++ delV ([NEnt.inv n (mapO ek E size en xs (some k)), NEnt.row m E size (d.map en)].map NEnt.name) W0) (W.putObj r (.map es' cl')) O2 R by
      obtain ⟨O2, h⟩ := hs;exact ⟨env, O2, R, fun _ _ => rfl, rfl, h⟩
    refine hst.over (take := [NEnt.inv n (mapO ek E size en xs (some k)), NEnt.row m E size (d.map en)]) (M1 := fun b => O n b ∨ O m b) (env' := env) (news := [.inv n (mapO ek E size en ys none)]) (W' := W.putObj r (.map es' cl')) (R' := R)
      (O' := fun _ b => O n b ∨ O m b) ht (fun b hb => hb.elim (fun h => ⟨NEnt.inv n (mapO ek E size en xs (some k)), by simp, h⟩) (fun h => ⟨NEnt.row m E size (d.map en), by simp, h⟩)) ⟨⟨rfl, rfl, rfl, by simp, fun b _ hb => World.putObj_heap_other fun e => hb (.inl (e ▸ hOr))⟩, fun y hy => ?_, fun y hy b hb => ?_, fun y hy z hz hne b hb => ?_, fun b hb => ⟨by simpa using (hst.ro b hb).1, .inr (.inl hb)⟩, fun _ h => h, by simp⟩ (fun _ _ => rfl) (fun y hy => by
        simp only [List.mem_singleton] at hy; subst hy; exact .inl (by simp [NEnt.name]))
    · simp only [List.mem_singleton] at hy;subst hy;refine ⟨r, cl', es', zs', fun q b => if q = j then O m b else Os q b ∧ q ≠ j, h1, .inl hOr, World.putObj_heap_same hlt, ⟨(hpz.trans hp0).trans hys'.symm, hndz, hbz⟩, hkz, fun q b hq => ?_, fun q q' b hne hq hq' => ?_, fun q e x he hx _ => ?_⟩
      · dsimp only at hq
        split at hq
        · exact ⟨.inr hq, (hmr b hq).1⟩
        · exact ⟨.inl (hO1 q b hq.1).1, (hO1 q b hq.1).2⟩
      · dsimp only at hq hq'
        split at hq <;> split at hq'
        · rename_i a b; exact hne (a.trans b.symm)
        · exact (hmr b hq).2 (hO1 q' b hq'.1).1
        · exact (hmr b hq').2 (hO1 q b hq.1).1
        · exact hO2 q q' b hne hq.1 hq'.1
      · rcases hcase q e x he hx with ⟨rfl, e2, rfl⟩ | ⟨hqj, e2, e3, hxk⟩
        · simp only [if_true];have : (NEnt.row m E size (d.map en)).holds env (W.putObj r (.map es' cl')) (O m) R := NEnt.holds_keep (fun b hb => World.putObj_heap_other (hmr b hb).1) hkeepR hrw;simp only [NEnt.holds] at this ⊢;rw [e2]; exact this
        · simp only [hqj, if_false];have e4 : (fun b => Os q b ∧ q ≠ j) = Os q := by funext b; exact propext ⟨fun h => h.1, fun h => ⟨h, hqj⟩⟩
          have := hrow q e x e2 e3 (fun h => hxk (by cases h; rfl));have h5 : (NEnt.row 0 E size (x.2.map en)).holds (fun _ => e.val) (W.putObj r (.map es' cl')) (Os q) R := NEnt.holds_keep (fun b hb => World.putObj_heap_other (hO1 q b hb).2) hkeepR this;have e5 : (fun b => if q = j then O m b else Os q b ∧ q ≠ j) = Os q := by funext b; simp [hqj]
          first | exact h5 | (rw [← e4] at h5; exact h5) | (rw [← e5] at h5; exact h5) | (simpa [hqj] using h5)
    · rcases hb with hb | hb
      · obtain ⟨q1, q2, q3⟩ := hst.own _ hm b hb; exact ⟨by simpa using q1, .inr (.inl hb), q3⟩
      · obtain ⟨q1, q2, q3⟩ := hst.own _ hr b hb; exact ⟨by simpa using q1, .inr (.inr hb), q3⟩
    · simp only [List.mem_singleton] at hy hz;subst hy; subst hz; exact hne rfl
  cases hfi : (zs.map (·.1)).findIdx? (· == k) with
  | none =>
    rw [hfi] at hf;have hno : ∀ x ∈ zs, x.1 ≠ k := fun x hx e => by
      have := List.findIdx?_eq_none_iff.1 hfi x.1 (List.mem_map.2 ⟨x, hx, rfl⟩);rw [e] at this; simp at this
    have hrun : (execOp evl o).run P W = .ok .skip (W.putObj r (.map (es.push { key := ek k, val := env m, born := cl }) (cl + 1))) := by
      simp only [execOp, ho, Instr.mapUpdate, hx', hi', hy', Sem.run_bind, run_underlying hk.under, Result.andThen_ok, getObj_map h2, hk.check, hf, Option.bind_none, setObj_map _ h2, Sem.run_pure]
    refine key _ _ es.toList.length (mput zs k d) hrun (.refl _) (nodup_put hnd' k d) (by rw [Array.toList_push]; exact hb.push rfl) ?_ fun q e x he hx => ?_
    · simp only [mput, mfind, hfi, Array.toList_push, List.map_append, hke, List.map_cons, List.map_nil]
    · simp only [mput, mfind, hfi] at hx;rw [Array.toList_push] at he;rcases Nat.lt_trichotomy q es.toList.length with hq | hq | hq
      · rw [List.getElem?_append_left hq] at he;rw [List.getElem?_append_left (by omega)] at hx;exact .inr ⟨by omega, he, hx, hno x (List.mem_of_getElem? hx)⟩
      · subst hq;rw [List.getElem?_append_right (Nat.le_refl _)] at he;rw [List.getElem?_append_right (by omega)] at hx;simp only [Nat.sub_self, List.getElem?_cons_zero, Option.some.injEq, hel] at he hx;subst he; subst hx;exact .inl ⟨rfl, rfl, rfl⟩
      · rw [List.getElem?_eq_none (by simp only [List.length_append, List.length_cons, List.length_nil]; omega)] at he;cases he
  | some j =>
    have hjl : j < zs.length := by have := (List.findIdx?_eq_some_iff_getElem.1 hfi).1; simpa using this
    have hje : j < es.toList.length := by omega
    have hej : es.toList[j]? = some es.toList[j] := List.getElem?_eq_getElem hje;rw [hfi] at hf;simp only [Option.bind_some, hej, Option.map_some] at hf;have hjk : (zs[j]).1 = k := by
      have := (List.findIdx?_eq_some_iff_getElem.1 hfi).2.1
      simpa using this
    have hkey : (es.toList[j]).key = ek k := by
      have := congrArg (fun l => l[j]?) hke;simp only [List.getElem?_map, hej, Option.map_some, List.getElem?_eq_getElem hjl, hjk] at this;exact Option.some.inj this
    have hej' : es[j]? = some es.toList[j] := by rw [← Array.getElem?_toList]; exact hej
    have hrun : (execOp evl o).run P W = .ok .skip (W.putObj r (.map (es.modify j fun e => { e with key := ek k, val := env m }) cl)) := by
      simp only [execOp, ho, Instr.mapUpdate, hx', hi', hy', Sem.run_bind, run_underlying hk.under, Result.andThen_ok, getObj_map h2, hk.check, hf, hej', Option.map_some, Option.getD_some, hkey, hk.stay, setObj_map _ h2, Sem.run_pure]
    have hl : (es.modify j fun e => { e with key := ek k, val := env m }).toList = es.toList.set j { es.toList[j] with key := ek k, val := env m } := by
      rw [Array.toList_modify];apply List.ext_getElem?;intro q;rw [List.getElem?_modify, List.getElem?_set]
      by_cases e' : j = q
      · subst e';simp only [hej, if_true, Option.map_some, if_pos hje]; rfl
      · simp [e']
    refine key _ _ j (mput zs k d) hrun (.refl _) (nodup_put hnd' k d) (hb.same ?_) ?_ fun q e x he hx => ?_
    · rw [hl];apply List.ext_getElem?;intro q;rw [List.getElem?_map, List.getElem?_map, List.getElem?_set]
      by_cases e' : j = q
      · subst e';simp only [if_true, if_pos hje, hej, Option.map_some]
      · simp [e']
    · rw [hl];simp only [mput, mfind, hfi];apply List.ext_getElem?;intro q;have h0 := congrArg (fun l => l[q]?) hke;simp only [List.getElem?_map, List.getElem?_set] at h0 ⊢
      by_cases e' : j = q
      · subst e';simp only [if_true, if_pos hje, if_pos hjl, Option.map_some]
      · simp only [e', if_false]; exact h0
    · rw [hl] at he;simp only [mput, mfind, hfi] at hx;rw [List.getElem?_set] at he hx
      by_cases e' : j = q
      · subst e';simp only [if_true, if_pos hje, if_pos hjl, Option.some.injEq] at he hx;subst he; subst hx;exact .inl ⟨rfl, rfl, rfl⟩
      · simp only [e', if_false] at he hx;refine .inr ⟨Ne.symm e', he, hx, fun e => ?_⟩
        -- each key once
        have h3 : (zs.map (·.1))[q]? = some k := by rw [List.getElem?_map, hx]; simp [e]
        have h4 : (zs.map (·.1))[j]? = some k := by rw [List.getElem?_map, List.getElem?_eq_getElem hjl]; simp [hjk]
        have hq : j < (zs.map (·.1)).length := by simpa using hjl
        exact e' ((List.getElem?_inj hq hnd').1 (h4.trans h3.symm))
end
def Sel {α : Type} (L : List α) (x : α) (l : List α) : Prop := ∃ (j : Nat) (hj : j < L.length), x = L[j] ∧ l = L.eraseIdx j
theorem nextAll_sel {α ρ : Type} {L : List α} {f : α → List α → Option ρ} {e : Option ρ} {r : ρ} (h : nextAll L f e = some r) {x : α} {l : List α} (hs : Sel L x l) : f x l = some r := by
  obtain ⟨j, hj, rfl, rfl⟩ := hs;exact (nextAll_inv h).2 j hj
theorem nextAll_end {α ρ : Type} {L : List α} {f : α → List α → Option ρ} {e : Option ρ} {r : ρ} (h : nextAll L f e = some r) (hL : L = []) : e = some r := (nextAll_inv h).1 hL
section
variable {P : Program} {c : Ctx} {sz : Fm} {Q : Exit → Act → World → Prop} {t : List Item} {s : List (Nat × AV)} {V : List NEnt} {ops : Array Oper} {rest : List Oper} {o1 o2 : Oper}
theorem TL.nextS {κ ν : Type} {n it d1 d2 : Nat} {ek : κ → Value} {ag : Bool} {ev : ν → List D} {left : List (κ × ν)} {cur : Option (κ × ν)} (i : Nat) (hi : V[i]? = some (.inv n (mitI ek ag ev left cur))) (ho1 : o1.op = .next (.tmp it) false) (hg1 : o1.guard = none) (hd1 : o1.dst = some d1)
    (hx : look s it = some (.ref n)) (ho2 : o2.op = .extract (.tmp d1) 0) (hg2 : o2.guard = none) (hd2 : o2.dst = some d2) (hn : look s d1 = none) (hl1 : Nat.blt d1 sz.sz = true) (hl2 : Nat.blt d2 sz.sz = true)
    (h0 : left = [] → TL P c sz Q ops rest t ((d2, .val (.bool false)) :: s) V)
    (h1 : ∀ (x : κ × ν) (l : List (κ × ν)), Sel left x l → TL P c sz Q ops rest t ((d2, .val (.bool true)) :: s) (V.set i (.inv n (mitI ek ag ev l (some x))))) :
    TL P c sz Q ops (o1 :: o2 :: rest) t s V :=
  TL.next i hi ho1 hg1 hd1 hx ho2 hg2 hd2 hn hl1 hl2 h0 fun j hj => h1 _ _ ⟨j, hj, rfl, rfl⟩
end
theorem OpSpec.froz {P : Program} {o : Oper} {ρ : Operand → Option AV} {need : List NEnt} {v : AV} {news : List NEnt} {x : NEnt} (j : Nat) (hj : news[j]? = some x) (h : OpSpec P o ρ need v news) : OpSpec P o ρ need v (news.set j x.toRo) := by
  intro ev env W O R he hn hO hR;refine (h ev env W O R he hn hO hR).mono ?_
  rintro u W' ⟨env', O', R', he', hu, hst⟩
  refine ⟨env', _, _, fun n hn => he' n fun y hy => ?_, hu, hst.freeze j hj⟩;have hnm := set_names (y := x.toRo) hj (NEnt.toRo_name x);have : y.name ∈ (news.set j x.toRo).map NEnt.name := by rw [hnm]; exact List.mem_map.2 ⟨y, hy, rfl⟩
  obtain ⟨z, hz, e⟩ := List.mem_map.1 this;rw [← e]; exact hn z hz
theorem findAsk2 {P : Program} {K : TypeId} {κ : Type} [BEq κ] [LawfulBEq κ] {ek : κ → Value} (hq : ∀ k k' w, (Op.equal K (ek k) (ek k')).run P w = .ok (k == k') w) (k : κ) : ∀ (es : List MapEntry) (ks : List κ) (i : Nat) (w : World), es.map (·.key) = ks.map ek →
    (Instr.findAsking K (ek k) es i).run P w = .ok ((ks.findIdx? (· == k)).bind fun j => (es[j]?).map fun e => (i + j, e.val)) w := by
  intro es
  induction es with
  | nil => intro ks i w h; cases ks <;> first | rfl | cases h
  | cons e es ih =>
    intro ks i w h
    cases ks with
    | nil => cases h
    | cons z ks =>
      simp only [List.map_cons, List.cons.injEq] at h;simp only [Instr.findAsking, h.1, Sem.run_bind, hq, Result.andThen_ok, List.findIdx?_cons]
      by_cases hz : k = z
      · subst hz; simp
      · have h1 : (k == z) = false := by simpa using hz
        have h2 : (z == k) = false := by simpa using Ne.symm hz
        simp only [h1, Bool.false_eq_true, if_false, h2, ih ks (i + 1) w h.2];cases ks.findIdx? (· == k) <;> simp
        rename_i j
        cases es[j]? <;> simp
        omega
theorem mkey_agg2 {P : Program} {M K V : TypeId} {κ : Type} [BEq κ] [LawfulBEq κ] {ek : κ → Value} {dK : TypeDesc} (hu : P.underlying M = some (.map K V)) (hK : P.underlying K = some dK) (hd : ∀ k es i, Instr.findNow dK k es i = if es = [] then some none else none) (hc : ∀ b k w, (Instr.checkKey b 10000 K (ek k)).run P w = .ok () w)
    (hq : ∀ k k' w, (Op.equal K (ek k) (ek k')).run P w = .ok (k == k') w) (hs : ∀ k, Instr.sameBits 10000 (ek k) (ek k) = true) : MKey P M K V ek where
  under := hu
  check := hc
  find k es ks w h := by
    simp only [Instr.findKey, Sem.run_bind, run_underlying hK, Result.andThen_ok, hd]
    cases es with
    | nil => cases ks <;> first | rfl | cases h
    | cons e es =>
      simp only [reduceCtorEq, if_false];have := findAsk2 hq k (e :: es) ks 0 w h
      simpa using this
  stay k w := by simp [Instr.keyThatStays, hs]
  eq ks k i x h1 h2 := by
    obtain ⟨h3, h4, _⟩ := List.findIdx?_eq_some_iff_getElem.1 h1;rw [List.getElem?_eq_getElem h3] at h2;cases h2;simp only [beq_iff_eq] at h4;rw [h4]
end Go.Proofs.Ytgkoldcmbcbbpaa.Sy
end
section
set_option linter.unusedSimpArgs false
set_option linter.unusedVariables false
namespace Go.Proofs.Ytgkoldcmbcbbpaa.Sy
open Go.RowKit
end Go.Proofs.Ytgkoldcmbcbbpaa.Sy
end
section
set_option linter.unusedSimpArgs false
set_option linter.unusedVariables false
namespace Go.Proofs.Ytgkoldcmbcbbpaa.Sy
open Go.RowKit
section
variable {P : Program} {c : Ctx} {sz : Fm} {Q : Exit → Act → World → Prop} {t : List Item} {s : List (Nat × AV)} {V : List NEnt} {ops : Array Oper} {rest : List Oper} {o : Oper} {ρ : Operand → Option AV}
theorem TL.pin (g n : Nat) (hf : (!hasS g s && !hasV g V) = true) (hg : Nat.beq g n = false) (h : ∀ u, TL P c sz Q ops rest t s (.pin g n u :: V)) : TL P c sz Q ops rest t s V := by
  simp only [Bool.and_eq_true, Bool.not_eq_true'] at hf;intro env tm W O R hfr hst;have hgn : g ≠ n := fun e => by subst e; rw [Nat.beq_refl] at hg; cases hg
  have hst' := hst.addRo (x := .pin g n (env n)) (v := .bool false) hf.2 fun O => by
    simp only [NEnt.holds, NEnt.name, setEnv_other hgn]
  exact h (env n) _ tm W _ R (hfr.congr fun m hm => (setEnv_other fun e => by subst e; simp only [NEnt.name] at hm; rw [hf.1] at hm; cases hm).symm) hst'
end
def arrI {X : Type} (T : TypeId) (enc : X → List Value) (xs : List X) : Inv :=
  ⟨fun W O _ v => ∃ b, v = .pointer (some ⟨b, 0, none⟩) ∧ O b ∧ W.heap[b]? = some (.cells (xs.flatMap enc).toArray T (0, 0)),
   fun W W' O R R' hO _ v h => by obtain ⟨b, h1, h2, h3⟩ := h; exact ⟨b, h1, h2, (hO b h2).trans h3⟩⟩
def IsArr {X : Type} (y : NEnt) (n : Nat) (T : TypeId) (enc : X → List Value) (xs : List X) : Prop := y = .inv n (arrI T enc xs) ∨ y = .any n (arrI T enc xs).froz
section
variable {X : Type} {T' n : Nat} {enc : X → List Value} {xs : List X}
theorem isArrO : IsArr (.inv n (arrI T' enc xs)) n T' enc xs := .inl rfl
theorem arr_holds {y : NEnt} (hy : IsArr y n T' enc xs) {env : Env} {W : World} {O R : Nat → Prop} (h : y.holds env W O R) :
    ∃ b, env n = .pointer (some ⟨b, 0, none⟩) ∧ W.heap[b]? = some (.cells (xs.flatMap enc).toArray T' (0, 0)) := by
  rcases hy with rfl | rfl
  · obtain ⟨b, h1, h2, h3⟩ := h; exact ⟨b, h1, h3⟩
  · obtain ⟨O', _, b, h1, h2, h3⟩ := h; exact ⟨b, h1, h3⟩
theorem flat_get {s : Nat} (hl : ∀ x, (enc x).length = s) {i j : Nat} {x : X} {v : Value} (hx : xs[i]? = some x) (hj : (enc x)[j]? = some v) : (xs.flatMap enc)[i * s + j]? = some v := by
  have h := arr_get (enc := fun x => (enc x).map AV.val) (s := s) (cells := (xs.flatMap fun x => (enc x).map AV.val)) (pre := []) (post := []) (xs := xs) (a := .val v) (i := i) (j := j) (x := x) (fun x => by simp [hl x]) (by
    have := (List.getElem?_eq_some_iff.1 hj).1;rw [hl] at this;simp [Nat.blt_eq]; omega) (by simp) hx (by simp [hj])
  have e : (xs.flatMap fun x => (enc x).map AV.val) = (xs.flatMap enc).map AV.val := by rw [List.map_flatMap]
  rw [e] at h
  simpa using h
variable {P : Program} {s : List (Nat × AV)} {o : Oper} {ρ : Operand → Option AV}
theorem sp_indexX {T E : TypeId} {size len off : Nat} {ag : Bool} {x i : Operand} {k : IntKind} {iv : Int} {y : NEnt} (ho : o.op = .indexAddr T x i) (hy : IsArr y n T' enc xs) (hx : ρ x = some (.ptr n off)) (hi : ρ i = some (.val (.int k iv))) (hT : P.underlying T = some (.array len E)) (hE : VarT P E size ag)
    (h0 : (decide (0 ≤ iv) && decide (iv < len)) = true) : OpSpec P o ρ [y] (.ptr n (off + iv.toNat * size)) [] :=
  .pure fun ev env W O R hev hn => by
    obtain ⟨b, e1, _⟩ := arr_holds hy (hn _ (List.mem_singleton.2 rfl));simp only [Bool.and_eq_true, decide_eq_true_eq] at h0;simp [execOp, ho, hev x _ hx, hev i _ hi, AV.den, e1, blockOff, Instr.indexAt, asIntOf, run_underlying hT, Instr.sureAddr, hE.sizeOf, h0.1, h0.2, add_lit]
theorem sp_loadX {T : TypeId} {x : Operand} {off size i j : Nat} {y : NEnt} {z : X} {v : Value} (ho : o.op = .load T x) (hy : IsArr y n T' enc xs) (hx : ρ x = some (.ptr n off)) (hT : VarT P T 1 false) (hl : ∀ x, (enc x).length = size) (hoff : off = 0 + i * size + j) (hi : xs[i]? = some z) (hj : (enc z)[j]? = some v) :
    OpSpec P o ρ [y] (.val v) [] :=
  .pure fun ev env W O R he hn => by
    rw [Nat.zero_add] at hoff; subst hoff;obtain ⟨b, h1, h3⟩ := arr_holds hy (hn _ (List.mem_singleton.2 rfl));have h4 : W.cell? ⟨b, i * size + j, none⟩ = some v := by simp [World.cell?, h3, flat_get hl hi hj]
    simp [execOp, ho, he x _ hx, AV.den, h1, blockOff, Instr.loadAt, Instr.sureAddr, loadVar, hT.isAgg, h4]
theorem flat_set {enc : X → List Value} {sz : Nat} (hl : ∀ x, (enc x).length = sz) {j : Nat} {z z' : X} {vs : List Value} : ∀ {xs : List X} {i : Nat}, xs[i]? = some z → j + vs.length ≤ sz → enc z' = (enc z).take j ++ vs ++ (enc z).drop (j + vs.length) →
    (xs.flatMap enc).take (i * sz + j) ++ vs ++ (xs.flatMap enc).drop (i * sz + j + vs.length) = (xs.set i z').flatMap enc := by
  intro xs
  induction xs with
  | nil => intro i h; simp at h
  | cons x l ih =>
    intro i hi hle he
    cases i with
    | zero =>
      simp only [List.getElem?_cons_zero, Option.some.injEq] at hi;subst hi;have hx := hl x;simp only [Nat.zero_mul, Nat.zero_add, List.flatMap_cons, List.set_cons_zero, he];rw [List.take_append_of_le_length (by omega), List.drop_append_of_le_length (by omega)];simp
    | succ i =>
      simp only [List.getElem?_cons_succ] at hi;have hx := hl x;have := ih hi hle he;simp only [List.flatMap_cons, List.set_cons_succ, ← this];have e1 : (i + 1) * sz + j = (enc x).length + (i * sz + j) := by rw [hx, Nat.add_mul]; omega
      rw [e1, Nat.add_assoc, List.take_length_add_append, List.drop_length_add_append];simp
theorem flat_len {enc : X → List Value} {sz : Nat} (hl : ∀ x, (enc x).length = sz) : ∀ xs : List X, (xs.flatMap enc).length = xs.length * sz
  | [] => by simp
  | x :: l => by rw [List.flatMap_cons, List.length_append, hl x, flat_len hl l, List.length_cons, Nat.add_mul]; omega
theorem ts_storeX {T off size i j N : Nat} {ag : Bool} {x y : Operand} {a : AV} {z z' : X} {vs : List Value} {need : List NEnt} (ho : o.op = .store T x y) (hx : rho s x = some (.ptr n off)) (hy : rho s y = some a) (hfl : a.flat = true) (hcs : a.cs = vs.map .val)
    (hT : VarT P T N ag) (hN : a.cs.length = N) (hl : ∀ x, (enc x).length = size) (hoff : off = 0 + i * size + j) (hi : xs[i]? = some z) (hle : Nat.ble (j + vs.length) size = true) (he : enc z' = (enc z).take j ++ vs ++ (enc z).drop (j + vs.length)) :
    TSpec P o (rho s) [.inv n (arrI T' enc xs)] need (.val undef) [.inv n (arrI T' enc (xs.set i z'))] := by
  rw [Nat.zero_add] at hoff; subst hN; subst hoff;intro ev c env V W O R hev hst ht _ _;obtain ⟨k, hk⟩ := List.mem_iff_getElem?.1 (ht _ (List.mem_singleton.2 rfl));have hle' := Nat.le_of_ble_eq_true hle;have hdv : ∀ (e : Env) (l : List Value), AV.denL e (l.map .val) = l := fun e l => by rw [AV.denL_map]; simp [AV.den, Function.comp_def]
  have hst1 := hst.write k (y := .blk n ((xs.flatMap enc).map .val) T') hk (Keep.refl _ W) rfl (by
    obtain ⟨b, h1, h2, h3⟩ := hst.holds _ (List.mem_of_getElem? hk);exact ⟨b, h1, h2, by rw [hdv]; exact h3⟩)
  have hlt : k < V.length := (List.getElem?_eq_some_iff.1 hk).1;have hk1 : (V.set k (NEnt.blk n ((xs.flatMap enc).map .val) T'))[k]? = some (.blk n ((xs.flatMap enc).map .val) T') := by rw [List.getElem?_set_self hlt]
  have hlen : i * size + j + vs.length ≤ (xs.flatMap enc).length := by
    have hv := flat_len hl xs;have hi' : i < xs.length := (List.getElem?_eq_some_iff.1 hi).1;have : (i + 1) * size ≤ xs.length * size := Nat.mul_le_mul_right _ hi';rw [Nat.add_mul] at this
    omega
  refine (coreB hev hst1 k ho hx hk1 hy hfl hT.sizeOf (by rw [hcs]; simpa using hlen)).mono ?_
  rintro u W' ⟨rfl, h⟩
  rw [List.set_set] at h;have e : ((xs.flatMap enc).map AV.val).take (i * size + j) ++ a.cs ++ ((xs.flatMap enc).map AV.val).drop (i * size + j + a.cs.length) = ((xs.set i z').flatMap enc).map .val := by
    rw [hcs, ← flat_set hl hi hle' he, List.length_map];simp only [List.map_append, List.map_take, List.map_drop]
  rw [e] at h;have hk2 : (V.set k (NEnt.blk n (((xs.set i z').flatMap enc).map .val) T'))[k]? = some (.blk n (((xs.set i z').flatMap enc).map .val) T') := by rw [List.getElem?_set_self hlt]
  have h2 := h.write k (y := .inv n (arrI T' enc (xs.set i z'))) hk2 (Keep.refl _ W') rfl (by
    obtain ⟨b, h1, h2, h3⟩ := h.holds _ (List.mem_of_getElem? hk2);exact ⟨b, h1, h2, by rw [hdv] at h3; exact h3⟩)
  rw [List.set_set] at h2;exact ⟨env, O, R, fun _ _ => rfl, rfl, St.set_del hk hst.names rfl h2⟩
variable {c : Ctx} {sz : Fm} {Q : Exit → Act → World → Prop} {t : List Item} {V : List NEnt} {ops : Array Oper} {rest : List Oper}
theorem St.toArr {env : Env} {W : World} {O : Nat → Nat → Prop} {R : Nat → Prop} (hst : St c env V W O R) (k : Nat) {cells : List AV} (xs : List X) (hk : V[k]? = some (.blk n cells T')) (hc : cells = (xs.flatMap enc).map .val) : St c env (V.set k (.inv n (arrI T' enc xs))) W O R := by
  subst hc;have hdv : ∀ (e : Env) (l : List Value), AV.denL e (l.map .val) = l := fun e l => by rw [AV.denL_map]; simp [AV.den, Function.comp_def]
  exact hst.write k hk (Keep.refl _ W) rfl (by
    obtain ⟨b, h1, h2, h3⟩ := hst.holds _ (List.mem_of_getElem? hk);exact ⟨b, h1, h2, by rw [hdv] at h3; exact h3⟩)
theorem TC.toArr (k : Nat) {cells : List AV} (xs : List X) (enc : X → List Value) (hk : V[k]? = some (.blk n cells T')) (hc : cells = (xs.flatMap enc).map .val) (h : TC P c sz Q t s (V.set k (.inv n (arrI T' enc xs)))) : TC P c sz Q t s V :=
  fun env tm W O R hf hst => h env tm W O R hf (hst.toArr k xs hk hc)
theorem TL.toArr (k : Nat) {cells : List AV} (xs : List X) (enc : X → List Value) (hk : V[k]? = some (.blk n cells T')) (hc : cells = (xs.flatMap enc).map .val) (h : TL P c sz Q ops rest t s (V.set k (.inv n (arrI T' enc xs)))) : TL P c sz Q ops rest t s V :=
  fun env tm W O R hf hst => h env tm W O R hf (hst.toArr k xs hk hc)
theorem TSpec.froz {P : Program} {o : Oper} {ρ : Operand → Option AV} {take need : List NEnt} {v : AV} {news : List NEnt} {x : NEnt} (j : Nat) (hj : news[j]? = some x) (h : TSpec P o ρ take need v news) : TSpec P o ρ take need v (news.set j x.toRo) := by
  intro ev c env V W O R he hst ht hk hn;have hnm := set_names (y := x.toRo) hj (NEnt.toRo_name x);have hmem : ∀ y ∈ news, ∃ z ∈ news.set j x.toRo, z.name = y.name := fun y hy => by
    have : y.name ∈ (news.set j x.toRo).map NEnt.name := by rw [hnm]; exact List.mem_map.2 ⟨y, hy, rfl⟩
    obtain ⟨z, hz, e⟩ := List.mem_map.1 this;exact ⟨z, hz, e⟩
  refine (h ev c env V W O R he hst ht hk (fun y hy => by obtain ⟨z, hz, e⟩ := hmem y hy; rw [← e]; exact hn z hz)).mono ?_
  rintro u W' ⟨env', O', R', he', hu, hst'⟩
  have hlt := (List.getElem?_eq_some_iff.1 hj).1;have hf := hst'.freeze j (x := x) (by rw [List.getElem?_append_left hlt]; exact hj);rw [List.set_append_left _ _ hlt] at hf;refine ⟨env', _, _, fun n hn2 => he' n fun y hy hyt e => ?_, hu, hf⟩;obtain ⟨z, hz, e2⟩ := hmem y hy;exact hn2 z hz (by rw [e2]; exact hyt) (by rw [e2]; exact e)
end
end Go.Proofs.Ytgkoldcmbcbbpaa.Sy
end
section
set_option linter.unusedSimpArgs false
set_option linter.unusedVariables false
namespace Go.Proofs.Ytgkoldcmbcbbpaa.Sy
open Go.RowKit Instr
section
variable {P : Program} {o : Oper} {ρ : Operand → Option AV}
end
section
variable {P : Program} {c : Ctx} {sz : Fm} {Q : Exit → Act → World → Prop} {t : List Item} {s : List (Nat × AV)} {V : List NEnt}
theorem aliasB (k i n b m size : Nat) {els : List (List D)} {cells : List AV} (cells' : List AV) {T : TypeId} (hk : V[k]? = some (.blk b cells T)) (hi : V[i]? = some (.ro m size els)) (hc : cells = AV.renL (rnA [(n, m)]) cells') (hf : freshN [.ro n size els] s V = true)
    (h : TC P c sz Q t s (.ro n size els :: V.set k (.blk b cells' T))) : TC P c sz Q t s V := by
  have hf' : hasS n s = false ∧ hasV n V = false := by simpa [freshN, NEnt.name] using hf
  intro env tm W O R hfr hst;have hr : reads size els W R (env m) := hst.holds _ (List.mem_of_getElem? hi);have hadd := hst.addRo (x := .ro n size els) (v := env m) hf'.2 fun O => by
    simp only [NEnt.holds, NEnt.name, setEnv_same]; exact hr
  have hm := List.mem_of_getElem? hk;have hbn : b ≠ n := fun e => by have := hasV_mem hf'.2 hm; simp [NEnt.has, e] at this
  have hden : AV.denL (setEnv env n (env m)) cells' = AV.denL env cells := by
    rw [hc, AV.denL_ren]
    congr 1
    funext q
    simp only [rnA]
    by_cases e : n = q
    · subst e; rw [if_pos rfl, setEnv_same]
    · rw [if_neg e, setEnv_other e]
  refine h (setEnv env n (env m)) tm W _ R ⟨hfr.1, fun t a ha => by rw [hfr.2 t a ha, AV.den_congr a (fun m' hm' => (setEnv_other (n := n) (m := m') fun e => by subst e; rw [look_has ha hm'] at hf'; cases hf'.1).symm)]⟩ (nil_swap (n := n) hadd hk rfl ?_)
  have h1 : (NEnt.blk b cells T).holds env W (O b) R := hst.holds _ hm;simp only [NEnt.holds] at h1 ⊢;obtain ⟨a, g1, g2, g3⟩ := h1;exact ⟨a, by rw [setEnv_other hbn.symm]; exact g1, by simpa [NEnt.name, hbn] using g2, by rw [hden]; exact g3⟩
end
end Go.Proofs.Ytgkoldcmbcbbpaa.Sy
end
section
set_option linter.unusedSimpArgs false
set_option linter.unusedVariables false
namespace Go.Proofs.Ytgkoldcmbcbbpaa.Sy
open Go.RowKit
section
variable {P : Program} {c : Ctx} {sz : Fm} {Q : Exit → Act → World → Prop} {t : List Item} {s : List (Nat × AV)} {V : List NEnt} {ops : Array Oper} {rest : List Oper}
end
section
variable {P : Program} {s : List (Nat × AV)} {o : Oper} {ρ : Operand → Option AV}
end
end Go.Proofs.Ytgkoldcmbcbbpaa.Sy
end
section
set_option linter.unusedSimpArgs false
set_option linter.unusedVariables false
namespace Go.Proofs.Ytgkoldcmbcbbpaa.Sy
open Go.RowKit
section
variable {P : Program} {c : Ctx} {sz : Fm} {Q : Exit → Act → World → Prop} {t : List Item} {s : List (Nat × AV)} {V : List NEnt} {ops : Array Oper} {rest : List Oper}
end
section
variable {P : Program} {s : List (Nat × AV)} {o : Oper} {ρ : Operand → Option AV}
end
end Go.Proofs.Ytgkoldcmbcbbpaa.Sy
end
section
set_option linter.unusedSimpArgs false
set_option linter.unusedVariables false
namespace Go.Proofs.Ytgkoldcmbcbbpaa.Sy
open Go.RowKit
section
variable {X : Type} {P : Program} {c : Ctx} {sz : Fm} {Q : Exit → Act → World → Prop} {t : List Item} {s : List (Nat × AV)} {V : List NEnt} {ops : Array Oper} {rest : List Oper} {T' n : Nat} {enc : X → List Value} {xs : List X}
theorem St.fromArr {env : Env} {W : World} {O : Nat → Nat → Prop} {R : Nat → Prop} (hst : St c env V W O R) (k : Nat) {cells : List AV} (hk : V[k]? = some (.inv n (arrI T' enc xs))) (hc : cells = (xs.flatMap enc).map .val) : St c env (V.set k (.blk n cells T')) W O R := by
  subst hc;have hdv : ∀ (e : Env) (l : List Value), AV.denL e (l.map .val) = l := fun e l => by rw [AV.denL_map]; simp [AV.den, Function.comp_def]
  exact hst.write k hk (Keep.refl _ W) rfl (by
    obtain ⟨b, h1, h2, h3⟩ := hst.holds _ (List.mem_of_getElem? hk);exact ⟨b, h1, h2, by rw [hdv]; exact h3⟩)
theorem range_getD {N : Nat} (d : X) (h : Nat.beq xs.length N = true) : xs = (List.range N).map fun i => xs.getD i d := by
  have h := Nat.eq_of_beq_eq_true h;apply List.ext_getElem
  · simp [h]
  · intro i h1 h2;simp [List.getD_eq_getElem?_getD, h1]
theorem TL.fromArr (k N : Nat) (d : X) {cells : List AV} (hl : Nat.beq xs.length N = true) (hk : V[k]? = some (.inv n (arrI T' enc xs))) (hc : cells = (((List.range N).map fun i => xs.getD i d).flatMap enc).map .val) (h : TL P c sz Q ops rest t s (V.set k (.blk n cells T'))) : TL P c sz Q ops rest t s V :=
  fun env tm W O R hf hst => h env tm W O R hf (hst.fromArr k hk (by rw [hc, ← range_getD d hl]))
theorem TC.fromArr (k N : Nat) (d : X) {cells : List AV} (hl : Nat.beq xs.length N = true) (hk : V[k]? = some (.inv n (arrI T' enc xs))) (hc : cells = (((List.range N).map fun i => xs.getD i d).flatMap enc).map .val) (h : TC P c sz Q t s (V.set k (.blk n cells T'))) : TC P c sz Q t s V :=
  fun env tm W O R hf hst => h env tm W O R hf (hst.fromArr k hk (by rw [hc, ← range_getD d hl]))
end
section
variable {P : Program} {o : Oper} {ρ : Operand → Option AV}
theorem sp_sliceAH {T E : TypeId} {size n len m : Nat} {ag : Bool} {x y : Operand} {kk : IntKind} {h : Int} {cells : List AV} {T' : TypeId} {els els' : List (List D)} {need : List NEnt} (ho : o.op = .slice T x none (some y) none) (hx : ρ x = some (.ptr n 0)) (hy : ρ y = some (.val (.int kk h))) (hb : (decide (0 ≤ h) && decide (h ≤ len)) = true) (hT : P.underlying T = some (.array len E)) (hE : VarT P E size ag)
    (hsz : ∀ el ∈ els, el.length = size) (hl : els.length = len) (hm : Nat.ble len 140737488355327 = true) (hp : Nat.blt 0 len = true) (hcl : cells.length = len * size) (had : ADL need cells els.flatten) (hone : cells.all AV.one = true) (hps : Nat.blt 0 size = true) (he : els.take h.toNat = els') : OpSpec P o ρ (.rob n cells T' :: need) (.ref m) [.ro m size els'] := by
  intro ev env W O R hev hn _ hR;simp only [Bool.and_eq_true, decide_eq_true_eq] at hb;obtain ⟨hb1, hb2⟩ := hb;obtain ⟨h, rfl⟩ : ∃ h' : Nat, h = h' := ⟨h.toNat, by omega⟩;simp only [Int.toNat_natCast] at he;have hle : h ≤ len := by omega
  obtain ⟨b, h1, h2, h3⟩ := hn (.rob n cells T') (by simp);have hx' := hev x _ hx;simp only [AV.den, h1, blockOff] at hx';have hy' := hev y _ hy;simp only [AV.den] at hy';have hp' : 0 < len := by simpa [Nat.blt_eq] using hp
  have hrun : (execOp ev o).run P W = .ok (.value (.slice (some ⟨b, 0, none⟩) h len)) W := by
    simp [execOp, ho, Instr.sliceAt, Instr.slice, hx', hy', run_underlying hT, Instr.sliceBounds, Instr.sliceBound, asIntOf, hle, hE.sizeOf, Nat.ne_of_gt hp', Instr.sureAddr, add_lit]
  rw [hrun];obtain ⟨hal, hak⟩ := had.ok (fun z hz => hn z (by simp [hz]));refine ⟨setEnv env m (.slice (some ⟨b, 0, none⟩) h len), fun _ _ => False, R, fun k hk => setEnv_other (hk (.ro m size els') (by simp)), by simp [AV.den, setEnv_same, oneOf], ?_⟩;refine St.fresh (Keep.refl _ W) hR ?_ (fun b hb => hb.elim);simp only [NEnt.holds, setEnv_same];subst he;refine ⟨some ⟨b, 0, none⟩, len, by rw [List.length_take, hl, Nat.min_eq_left hle], by rw [List.length_take]; omega, (by have := Nat.le_of_ble_eq_true hm; simp only [maxLen]; omega), (fun h => nomatch h), fun i el hi => ?_⟩;have hi : els[i]? = some el := by
    rw [List.getElem?_take] at hi
    split at hi
    · exact hi
    · cases hi
  refine ⟨hsz el (List.mem_of_getElem? hi), fun j d hj => ⟨b, 0, rfl, h2, ?_⟩⟩;have hjs : j < size := by
    have := (List.getElem?_eq_some_iff.1 hj).1; rw [hsz el (List.mem_of_getElem? hi)] at this; exact this
  have hf := flatten_get els i j el hsz hi hjs;obtain ⟨u, hu, hok⟩ := hak (i * size + j) d (by rw [hf]; exact hj);refine ⟨u, ?_, hok, denL_one hone u (List.mem_of_getElem? hu)⟩;simp only [World.cell?, h3, Nat.zero_add]
  simpa using hu
end
end Go.Proofs.Ytgkoldcmbcbbpaa.Sy
end
