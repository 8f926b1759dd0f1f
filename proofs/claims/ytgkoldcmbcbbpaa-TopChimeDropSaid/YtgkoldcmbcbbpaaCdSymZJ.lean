/- Texts joined into one: SymZ, SymPt, SymRR, SymRS, SymTu, SymSo. -/
import Derived.Test.YtgkoldcmbcbbpaaCdSymQJ
import Derived.Shelf.SlSortCmp.WholeK
import Derived.Shelf.SlSortCmp.NoneTotal
import Derived.Sort.AssemblyPlain
section
set_option linter.unusedSimpArgs false
set_option linter.unusedVariables false
namespace Go.Proofs.Ytgkoldcmbcbbpaa.Sy
open Go.RowKit
section
variable {P : Program} {c : Ctx} {sz : Fm} {Q : Exit → Act → World → Prop} {t : List Item} {s : List (Nat × AV)} {V : List NEnt} {ops : Array Oper} {rest : List Oper} {o : Oper} {ρ : Operand → Option AV}
theorem TL.pin (g n : Nat) (hf : (!hasS g s && !hasV g V) = true) (hg : Nat.beq g n = false) (h : ∀ u, TL P c sz Q ops rest t s (.pin g n u :: V)) : TL P c sz Q ops rest t s V := by
  simp only [Bool.and_eq_true, Bool.not_eq_true'] at hf;intro env tm W O R hfr hst;have hgn : g ≠ n := fun e => by subst e; rw [Nat.beq_refl] at hg; cases hg
  have hst' := hst.addRo (x := .pin g n (env n)) (v := .bool false) hf.2 fun O => by
    simp only [NEnt.holds, NEnt.name, setEnv_other hgn]
  exact h (env n) _ tm W _ R (hfr.congr fun m hm => (setEnv_other fun e => by subst e; simp only [NEnt.name] at hm; rw [hf.1] at hm; cases hm).symm) hst'
end
def arrI {X : Type} (T : TypeId) (enc : X → List Value) (xs : List X) : Inv :=
  ⟨fun W O _ v => ∃ b, v = .pointer (some ⟨b, 0, none⟩) ∧ O b ∧ W.heap[b]? = some (.cells (xs.flatMap enc).toArray T (0, 0)),
   fun W W' O R R' hO _ v h => by obtain ⟨b, h1, h2, h3⟩ := h; exact ⟨b, h1, h2, (hO b h2).trans h3⟩⟩
def IsArr {X : Type} (y : NEnt) (n : Nat) (T : TypeId) (enc : X → List Value) (xs : List X) : Prop := y = .inv n (arrI T enc xs) ∨ y = .any n (arrI T enc xs).froz
section
variable {X : Type} {T' n : Nat} {enc : X → List Value} {xs : List X}
theorem isArrO : IsArr (.inv n (arrI T' enc xs)) n T' enc xs := .inl rfl
theorem arr_holds {y : NEnt} (hy : IsArr y n T' enc xs) {env : Env} {W : World} {O R : Nat → Prop} (h : y.holds env W O R) :
    ∃ b, env n = .pointer (some ⟨b, 0, none⟩) ∧ W.heap[b]? = some (.cells (xs.flatMap enc).toArray T' (0, 0)) := by
  rcases hy with rfl | rfl
  · obtain ⟨b, h1, h2, h3⟩ := h; exact ⟨b, h1, h3⟩
  · obtain ⟨O', _, b, h1, h2, h3⟩ := h; exact ⟨b, h1, h3⟩
theorem flat_get {s : Nat} (hl : ∀ x, (enc x).length = s) {i j : Nat} {x : X} {v : Value} (hx : xs[i]? = some x) (hj : (enc x)[j]? = some v) : (xs.flatMap enc)[i * s + j]? = some v := by
  have h := arr_get (enc := fun x => (enc x).map AV.val) (s := s) (cells := (xs.flatMap fun x => (enc x).map AV.val)) (pre := []) (post := []) (xs := xs) (a := .val v) (i := i) (j := j) (x := x) (fun x => by simp [hl x]) (by
    have := (List.getElem?_eq_some_iff.1 hj).1;rw [hl] at this;simp [Nat.blt_eq]; omega) (by simp) hx (by simp [hj])
  have e : (xs.flatMap fun x => (enc x).map AV.val) = (xs.flatMap enc).map AV.val := by rw [List.map_flatMap]
  rw [e] at h
  simpa using h
variable {P : Program} {s : List (Nat × AV)} {o : Oper} {ρ : Operand → Option AV}
theorem sp_indexX {T E : TypeId} {size len off : Nat} {ag : Bool} {x i : Operand} {k : IntKind} {iv : Int} {y : NEnt} (ho : o.op = .indexAddr T x i) (hy : IsArr y n T' enc xs) (hx : ρ x = some (.ptr n off)) (hi : ρ i = some (.val (.int k iv))) (hT : P.underlying T = some (.array len E)) (hE : VarT P E size ag)
    (h0 : (decide (0 ≤ iv) && decide (iv < len)) = true) : OpSpec P o ρ [y] (.ptr n (off + iv.toNat * size)) [] :=
  .pure fun ev env W O R hev hn => by
    obtain ⟨b, e1, _⟩ := arr_holds hy (hn _ (List.mem_singleton.2 rfl));simp only [Bool.and_eq_true, decide_eq_true_eq] at h0;simp [execOp, ho, hev x _ hx, hev i _ hi, AV.den, e1, blockOff, Instr.indexAt, asIntOf, run_underlying hT, Instr.sureAddr, hE.sizeOf, h0.1, h0.2, add_lit]
theorem sp_loadX {T : TypeId} {x : Operand} {off size i j : Nat} {y : NEnt} {z : X} {v : Value} (ho : o.op = .load T x) (hy : IsArr y n T' enc xs) (hx : ρ x = some (.ptr n off)) (hT : VarT P T 1 false) (hl : ∀ x, (enc x).length = size) (hoff : off = 0 + i * size + j) (hi : xs[i]? = some z) (hj : (enc z)[j]? = some v) :
    OpSpec P o ρ [y] (.val v) [] :=
  .pure fun ev env W O R he hn => by
    rw [Nat.zero_add] at hoff; subst hoff;obtain ⟨b, h1, h3⟩ := arr_holds hy (hn _ (List.mem_singleton.2 rfl));have h4 : W.cell? ⟨b, i * size + j, none⟩ = some v := by simp [World.cell?, h3, flat_get hl hi hj]
    simp [execOp, ho, he x _ hx, AV.den, h1, blockOff, Instr.loadAt, Instr.sureAddr, loadVar, hT.isAgg, h4]
theorem flat_set {enc : X → List Value} {sz : Nat} (hl : ∀ x, (enc x).length = sz) {j : Nat} {z z' : X} {vs : List Value} : ∀ {xs : List X} {i : Nat}, xs[i]? = some z → j + vs.length ≤ sz → enc z' = (enc z).take j ++ vs ++ (enc z).drop (j + vs.length) →
    (xs.flatMap enc).take (i * sz + j) ++ vs ++ (xs.flatMap enc).drop (i * sz + j + vs.length) = (xs.set i z').flatMap enc := by
  intro xs
  induction xs with
  | nil => intro i h; simp at h
  | cons x l ih =>
    intro i hi hle he
    cases i with
    | zero =>
      simp only [List.getElem?_cons_zero, Option.some.injEq] at hi;subst hi;have hx := hl x;simp only [Nat.zero_mul, Nat.zero_add, List.flatMap_cons, List.set_cons_zero, he];rw [List.take_append_of_le_length (by omega), List.drop_append_of_le_length (by omega)];simp
    | succ i =>
      simp only [List.getElem?_cons_succ] at hi;have hx := hl x;have := ih hi hle he;simp only [List.flatMap_cons, List.set_cons_succ, ← this];have e1 : (i + 1) * sz + j = (enc x).length + (i * sz + j) := by rw [hx, Nat.add_mul]; omega
      rw [e1, Nat.add_assoc, List.take_length_add_append, List.drop_length_add_append];simp
theorem flat_len {enc : X → List Value} {sz : Nat} (hl : ∀ x, (enc x).length = sz) : ∀ xs : List X, (xs.flatMap enc).length = xs.length * sz
  | [] => by simp
  | x :: l => by rw [List.flatMap_cons, List.length_append, hl x, flat_len hl l, List.length_cons, Nat.add_mul]; omega
theorem ts_storeX {T off size i j N : Nat} {ag : Bool} {x y : Operand} {a : AV} {z z' : X} {vs : List Value} {need : List NEnt} (ho : o.op = .store T x y) (hx : rho s x = some (.ptr n off)) (hy : rho s y = some a) (hfl : a.flat = true) (hcs : a.cs = vs.map .val)
    (hT : VarT P T N ag) (hN : a.cs.length = N) (hl : ∀ x, (enc x).length = size) (hoff : off = 0 + i * size + j) (hi : xs[i]? = some z) (hle : Nat.ble (j + vs.length) size = true) (he : enc z' = (enc z).take j ++ vs ++ (enc z).drop (j + vs.length)) :
    TSpec P o (rho s) [.inv n (arrI T' enc xs)] need (.val undef) [.inv n (arrI T' enc (xs.set i z'))] := by
  rw [Nat.zero_add] at hoff; subst hN; subst hoff;intro ev c env V W O R hev hst ht _ _;obtain ⟨k, hk⟩ := List.mem_iff_getElem?.1 (ht _ (List.mem_singleton.2 rfl));have hle' := Nat.le_of_ble_eq_true hle;have hdv : ∀ (e : Env) (l : List Value), AV.denL e (l.map .val) = l := fun e l => by rw [AV.denL_map]; simp [AV.den, Function.comp_def]
  have hst1 := hst.write k (y := .blk n ((xs.flatMap enc).map .val) T') hk (Keep.refl _ W) rfl (by
    obtain ⟨b, h1, h2, h3⟩ := hst.holds _ (List.mem_of_getElem? hk);exact ⟨b, h1, h2, by rw [hdv]; exact h3⟩)
  have hlt : k < V.length := (List.getElem?_eq_some_iff.1 hk).1;have hk1 : (V.set k (NEnt.blk n ((xs.flatMap enc).map .val) T'))[k]? = some (.blk n ((xs.flatMap enc).map .val) T') := by rw [List.getElem?_set_self hlt]
  have hlen : i * size + j + vs.length ≤ (xs.flatMap enc).length := by
    have hv := flat_len hl xs;have hi' : i < xs.length := (List.getElem?_eq_some_iff.1 hi).1;have : (i + 1) * size ≤ xs.length * size := Nat.mul_le_mul_right _ hi';rw [Nat.add_mul] at this
    omega
  refine (coreB hev hst1 k ho hx hk1 hy hfl hT.sizeOf (by rw [hcs]; simpa using hlen)).mono ?_
  rintro u W' ⟨rfl, h⟩
  rw [List.set_set] at h;have e : ((xs.flatMap enc).map AV.val).take (i * size + j) ++ a.cs ++ ((xs.flatMap enc).map AV.val).drop (i * size + j + a.cs.length) = ((xs.set i z').flatMap enc).map .val := by
    rw [hcs, ← flat_set hl hi hle' he, List.length_map];simp only [List.map_append, List.map_take, List.map_drop]
  rw [e] at h;have hk2 : (V.set k (NEnt.blk n (((xs.set i z').flatMap enc).map .val) T'))[k]? = some (.blk n (((xs.set i z').flatMap enc).map .val) T') := by rw [List.getElem?_set_self hlt]
  have h2 := h.write k (y := .inv n (arrI T' enc (xs.set i z'))) hk2 (Keep.refl _ W') rfl (by
    obtain ⟨b, h1, h2, h3⟩ := h.holds _ (List.mem_of_getElem? hk2);exact ⟨b, h1, h2, by rw [hdv] at h3; exact h3⟩)
  rw [List.set_set] at h2;exact ⟨env, O, R, fun _ _ => rfl, rfl, St.set_del hk hst.names rfl h2⟩
variable {c : Ctx} {sz : Fm} {Q : Exit → Act → World → Prop} {t : List Item} {V : List NEnt} {ops : Array Oper} {rest : List Oper}
theorem St.toArr {env : Env} {W : World} {O : Nat → Nat → Prop} {R : Nat → Prop} (hst : St c env V W O R) (k : Nat) {cells : List AV} (xs : List X) (hk : V[k]? = some (.blk n cells T')) (hc : cells = (xs.flatMap enc).map .val) : St c env (V.set k (.inv n (arrI T' enc xs))) W O R := by
  subst hc;have hdv : ∀ (e : Env) (l : List Value), AV.denL e (l.map .val) = l := fun e l => by rw [AV.denL_map]; simp [AV.den, Function.comp_def]
  exact hst.write k hk (Keep.refl _ W) rfl (by
    obtain ⟨b, h1, h2, h3⟩ := hst.holds _ (List.mem_of_getElem? hk);exact ⟨b, h1, h2, by rw [hdv] at h3; exact h3⟩)
theorem TC.toArr (k : Nat) {cells : List AV} (xs : List X) (enc : X → List Value) (hk : V[k]? = some (.blk n cells T')) (hc : cells = (xs.flatMap enc).map .val) (h : TC P c sz Q t s (V.set k (.inv n (arrI T' enc xs)))) : TC P c sz Q t s V :=
  fun env tm W O R hf hst => h env tm W O R hf (hst.toArr k xs hk hc)
theorem TL.toArr (k : Nat) {cells : List AV} (xs : List X) (enc : X → List Value) (hk : V[k]? = some (.blk n cells T')) (hc : cells = (xs.flatMap enc).map .val) (h : TL P c sz Q ops rest t s (V.set k (.inv n (arrI T' enc xs)))) : TL P c sz Q ops rest t s V :=
  fun env tm W O R hf hst => h env tm W O R hf (hst.toArr k xs hk hc)
theorem TSpec.froz {P : Program} {o : Oper} {ρ : Operand → Option AV} {take need : List NEnt} {v : AV} {news : List NEnt} {x : NEnt} (j : Nat) (hj : news[j]? = some x) (h : TSpec P o ρ take need v news) : TSpec P o ρ take need v (news.set j x.toRo) := by
  intro ev c env V W O R he hst ht hk hn;have hnm := set_names (y := x.toRo) hj (NEnt.toRo_name x);have hmem : ∀ y ∈ news, ∃ z ∈ news.set j x.toRo, z.name = y.name := fun y hy => by
    have : y.name ∈ (news.set j x.toRo).map NEnt.name := by rw [hnm]; exact List.mem_map.2 ⟨y, hy, rfl⟩
    obtain ⟨z, hz, e⟩ := List.mem_map.1 this;exact ⟨z, hz, e⟩
  refine (h ev c env V W O R he hst ht hk (fun y hy => by obtain ⟨z, hz, e⟩ := hmem y hy; rw [← e]; exact hn z hz)).mono ?_
  rintro u W' ⟨env', O', R', he', hu, hst'⟩
  have hlt := (List.getElem?_eq_some_iff.1 hj).1;have hf := hst'.freeze j (x := x) (by rw [List.getElem?_append_left hlt]; exact hj);rw [List.set_append_left _ _ hlt] at hf;refine ⟨env', _, _, fun n hn2 => he' n fun y hy hyt e => ?_, hu, hf⟩;obtain ⟨z, hz, e2⟩ := hmem y hy;exact hn2 z hz (by rw [e2]; exact hyt) (by rw [e2]; exact e)
end
end Go.Proofs.Ytgkoldcmbcbbpaa.Sy
end
section
set_option linter.unusedSimpArgs false
set_option linter.unusedVariables false
namespace Go.Proofs.Ytgkoldcmbcbbpaa.Sy
open Go.RowKit Instr
section
variable {P : Program} {o : Oper} {ρ : Operand → Option AV}
end
section
variable {P : Program} {c : Ctx} {sz : Fm} {Q : Exit → Act → World → Prop} {t : List Item} {s : List (Nat × AV)} {V : List NEnt}
theorem aliasB (k i n b m size : Nat) {els : List (List D)} {cells : List AV} (cells' : List AV) {T : TypeId} (hk : V[k]? = some (.blk b cells T)) (hi : V[i]? = some (.ro m size els)) (hc : cells = AV.renL (rnA [(n, m)]) cells') (hf : freshN [.ro n size els] s V = true)
    (h : TC P c sz Q t s (.ro n size els :: V.set k (.blk b cells' T))) : TC P c sz Q t s V := by
  have hf' : hasS n s = false ∧ hasV n V = false := by simpa [freshN, NEnt.name] using hf
  intro env tm W O R hfr hst;have hr : reads size els W R (env m) := hst.holds _ (List.mem_of_getElem? hi);have hadd := hst.addRo (x := .ro n size els) (v := env m) hf'.2 fun O => by
    simp only [NEnt.holds, NEnt.name, setEnv_same]; exact hr
  have hm := List.mem_of_getElem? hk;have hbn : b ≠ n := fun e => by have := hasV_mem hf'.2 hm; simp [NEnt.has, e] at this
  have hden : AV.denL (setEnv env n (env m)) cells' = AV.denL env cells := by
    rw [hc, AV.denL_ren]
    congr 1
    funext q
    simp only [rnA]
    by_cases e : n = q
    · subst e; rw [if_pos rfl, setEnv_same]
    · rw [if_neg e, setEnv_other e]
  refine h (setEnv env n (env m)) tm W _ R ⟨hfr.1, fun t a ha => by rw [hfr.2 t a ha, AV.den_congr a (fun m' hm' => (setEnv_other (n := n) (m := m') fun e => by subst e; rw [look_has ha hm'] at hf'; cases hf'.1).symm)]⟩ (nil_swap (n := n) hadd hk rfl ?_)
  have h1 : (NEnt.blk b cells T).holds env W (O b) R := hst.holds _ hm;simp only [NEnt.holds] at h1 ⊢;obtain ⟨a, g1, g2, g3⟩ := h1;exact ⟨a, by rw [setEnv_other hbn.symm]; exact g1, by simpa [NEnt.name, hbn] using g2, by rw [hden]; exact g3⟩
end
end Go.Proofs.Ytgkoldcmbcbbpaa.Sy
end
section
set_option linter.unusedSimpArgs false
set_option linter.unusedVariables false
namespace Go.Proofs.Ytgkoldcmbcbbpaa.Sy
open Go.RowKit
section
variable {P : Program} {c : Ctx} {sz : Fm} {Q : Exit → Act → World → Prop} {t : List Item} {s : List (Nat × AV)} {V : List NEnt} {ops : Array Oper} {rest : List Oper}
end
section
variable {P : Program} {s : List (Nat × AV)} {o : Oper} {ρ : Operand → Option AV}
end
end Go.Proofs.Ytgkoldcmbcbbpaa.Sy
end
section
set_option linter.unusedSimpArgs false
set_option linter.unusedVariables false
namespace Go.Proofs.Ytgkoldcmbcbbpaa.Sy
open Go.RowKit
section
variable {P : Program} {c : Ctx} {sz : Fm} {Q : Exit → Act → World → Prop} {t : List Item} {s : List (Nat × AV)} {V : List NEnt} {ops : Array Oper} {rest : List Oper}
end
section
variable {P : Program} {s : List (Nat × AV)} {o : Oper} {ρ : Operand → Option AV}
end
end Go.Proofs.Ytgkoldcmbcbbpaa.Sy
end
section
set_option linter.unusedSimpArgs false
set_option linter.unusedVariables false
namespace Go.Proofs.Ytgkoldcmbcbbpaa.Sy
open Go.RowKit
section
variable {X : Type} {P : Program} {c : Ctx} {sz : Fm} {Q : Exit → Act → World → Prop} {t : List Item} {s : List (Nat × AV)} {V : List NEnt} {ops : Array Oper} {rest : List Oper} {T' n : Nat} {enc : X → List Value} {xs : List X}
theorem St.fromArr {env : Env} {W : World} {O : Nat → Nat → Prop} {R : Nat → Prop} (hst : St c env V W O R) (k : Nat) {cells : List AV} (hk : V[k]? = some (.inv n (arrI T' enc xs))) (hc : cells = (xs.flatMap enc).map .val) : St c env (V.set k (.blk n cells T')) W O R := by
  subst hc;have hdv : ∀ (e : Env) (l : List Value), AV.denL e (l.map .val) = l := fun e l => by rw [AV.denL_map]; simp [AV.den, Function.comp_def]
  exact hst.write k hk (Keep.refl _ W) rfl (by
    obtain ⟨b, h1, h2, h3⟩ := hst.holds _ (List.mem_of_getElem? hk);exact ⟨b, h1, h2, by rw [hdv]; exact h3⟩)
theorem range_getD {N : Nat} (d : X) (h : Nat.beq xs.length N = true) : xs = (List.range N).map fun i => xs.getD i d := by
  have h := Nat.eq_of_beq_eq_true h;apply List.ext_getElem
  · simp [h]
  · intro i h1 h2;simp [List.getD_eq_getElem?_getD, h1]
theorem TL.fromArr (k N : Nat) (d : X) {cells : List AV} (hl : Nat.beq xs.length N = true) (hk : V[k]? = some (.inv n (arrI T' enc xs))) (hc : cells = (((List.range N).map fun i => xs.getD i d).flatMap enc).map .val) (h : TL P c sz Q ops rest t s (V.set k (.blk n cells T'))) : TL P c sz Q ops rest t s V :=
  fun env tm W O R hf hst => h env tm W O R hf (hst.fromArr k hk (by rw [hc, ← range_getD d hl]))
theorem TC.fromArr (k N : Nat) (d : X) {cells : List AV} (hl : Nat.beq xs.length N = true) (hk : V[k]? = some (.inv n (arrI T' enc xs))) (hc : cells = (((List.range N).map fun i => xs.getD i d).flatMap enc).map .val) (h : TC P c sz Q t s (V.set k (.blk n cells T'))) : TC P c sz Q t s V :=
  fun env tm W O R hf hst => h env tm W O R hf (hst.fromArr k hk (by rw [hc, ← range_getD d hl]))
end
section
variable {P : Program} {o : Oper} {ρ : Operand → Option AV}
theorem sp_sliceAH {T E : TypeId} {size n len m : Nat} {ag : Bool} {x y : Operand} {kk : IntKind} {h : Int} {cells : List AV} {T' : TypeId} {els els' : List (List D)} {need : List NEnt} (ho : o.op = .slice T x none (some y) none) (hx : ρ x = some (.ptr n 0)) (hy : ρ y = some (.val (.int kk h))) (hb : (decide (0 ≤ h) && decide (h ≤ len)) = true) (hT : P.underlying T = some (.array len E)) (hE : VarT P E size ag)
    (hsz : ∀ el ∈ els, el.length = size) (hl : els.length = len) (hm : Nat.ble len 140737488355327 = true) (hp : Nat.blt 0 len = true) (hcl : cells.length = len * size) (had : ADL need cells els.flatten) (hone : cells.all AV.one = true) (hps : Nat.blt 0 size = true) (he : els.take h.toNat = els') : OpSpec P o ρ (.rob n cells T' :: need) (.ref m) [.ro m size els'] := by
  intro ev env W O R hev hn _ hR;simp only [Bool.and_eq_true, decide_eq_true_eq] at hb;obtain ⟨hb1, hb2⟩ := hb;obtain ⟨h, rfl⟩ : ∃ h' : Nat, h = h' := ⟨h.toNat, by omega⟩;simp only [Int.toNat_natCast] at he;have hle : h ≤ len := by omega
  obtain ⟨b, h1, h2, h3⟩ := hn (.rob n cells T') (by simp);have hx' := hev x _ hx;simp only [AV.den, h1, blockOff] at hx';have hy' := hev y _ hy;simp only [AV.den] at hy';have hp' : 0 < len := by simpa [Nat.blt_eq] using hp
  have hrun : (execOp ev o).run P W = .ok (.value (.slice (some ⟨b, 0, none⟩) h len)) W := by
    simp [execOp, ho, Instr.sliceAt, Instr.slice, hx', hy', run_underlying hT, Instr.sliceBounds, Instr.sliceBound, asIntOf, hle, hE.sizeOf, Nat.ne_of_gt hp', Instr.sureAddr, add_lit]
  rw [hrun];obtain ⟨hal, hak⟩ := had.ok (fun z hz => hn z (by simp [hz]));refine ⟨setEnv env m (.slice (some ⟨b, 0, none⟩) h len), fun _ _ => False, R, fun k hk => setEnv_other (hk (.ro m size els') (by simp)), by simp [AV.den, setEnv_same, oneOf], ?_⟩;refine St.fresh (Keep.refl _ W) hR ?_ (fun b hb => hb.elim);simp only [NEnt.holds, setEnv_same];subst he;refine ⟨some ⟨b, 0, none⟩, len, by rw [List.length_take, hl, Nat.min_eq_left hle], by rw [List.length_take]; omega, (by have := Nat.le_of_ble_eq_true hm; simp only [maxLen]; omega), (fun h => nomatch h), fun i el hi => ?_⟩;have hi : els[i]? = some el := by
    rw [List.getElem?_take] at hi
    split at hi
    · exact hi
    · cases hi
  refine ⟨hsz el (List.mem_of_getElem? hi), fun j d hj => ⟨b, 0, rfl, h2, ?_⟩⟩;have hjs : j < size := by
    have := (List.getElem?_eq_some_iff.1 hj).1; rw [hsz el (List.mem_of_getElem? hi)] at this; exact this
  have hf := flatten_get els i j el hsz hi hjs;obtain ⟨u, hu, hok⟩ := hak (i * size + j) d (by rw [hf]; exact hj);refine ⟨u, ?_, hok, denL_one hone u (List.mem_of_getElem? hu)⟩;simp only [World.cell?, h3, Nat.zero_add]
  simpa using hu
end
end Go.Proofs.Ytgkoldcmbcbbpaa.Sy
end
section
set_option linter.unusedSimpArgs false
set_option linter.unusedVariables false
namespace Go.Proofs.Ytgkoldcmbcbbpaa.Sy
open Go.RowKit Go.Shelf Go.Lib Go.Sort
noncomputable def pdqL {X : Type} [Inhabited X] (cf : X → X → Int) (zs : List X) : List X := (pdq (ltOf cf) zs.toArray 0 zs.length (Lib.bitLen zs.length) true true).toList
theorem pdqL_perm {X : Type} [Inhabited X] {cf : X → X → Int} (hO : SWO (ltOf cf)) (zs : List X) : (pdqL cf zs).Perm zs := by
  have h := (pdq_sorts (ltOf cf) hO zs.toArray 0 zs.length (Lib.bitLen zs.length) true true (Nat.zero_le _) (by simp) (Or.inl rfl)).1;obtain ⟨h1, _, h3⟩ := h;unfold pdqL
  generalize pdq (ltOf cf) zs.toArray 0 zs.length (Lib.bitLen zs.length) true true = D at h1 h3 ⊢
  have hs : D.size = zs.length := by simpa using h1
  have e : D.extract 0 zs.length = D := by rw [← hs]; simp
  rw [e] at h3
  simpa using h3
theorem flatK_list {X : Type} [Inhabited X] {enc : X → List Value} {k : Nat} (k0 : 0 < k) (hk : ∀ x, (enc x).length = k) (xs : List X) : flatK enc k xs.toArray = (xs.flatMap enc).toArray := by
  refine ext_get! (by simp [flat_len hk]) fun t ht => ?_
  have ht' : t < xs.length * k := by simpa using ht
  rw [get_flatK _ _ _ _ (by simpa using ht')];have hd : t / k < xs.length := by rw [Nat.div_lt_iff_lt_mul k0]; exact ht'
  have hm : t % k < (enc xs[t / k]).length := by rw [hk]; exact Nat.mod_lt _ k0
  have h := flat_get (enc := enc) (xs := xs) hk (i := t / k) (j := t % k) (List.getElem?_eq_getElem hd) (List.getElem?_eq_getElem hm);rw [Nat.mul_comm, Nat.div_add_mod] at h;have e1 : (xs.toArray)[t / k]! = xs[t / k] := by simp [hd]
  rw [e1];have e2 : (enc xs[t / k])[t % k]! = (enc xs[t / k])[t % k] := by simp [hm]
  rw [e2];simp [h]
theorem take_putK {vs cur : List Value} (h : vs.length ≤ cur.length) : (putCells id 0 vs.toArray cur.toArray).toList.take vs.length = vs := by
  apply List.ext_getElem?;intro k;rw [List.getElem?_take]
  split
  · rename_i hk
    have h1 : k < cur.length := by omega
    rw [Array.getElem?_toList, putCells, Array.getElem?_mapIdx];simp [hk, h1]
  · rename_i hk
    rw [List.getElem?_eq_none (by omega)]
theorem ft_sortK {P : Program} {ρ : Shelf.Ren} (L : SlLaysF0.n6 P ρ) {E : TypeId} {X : Type} [Inhabited X] {k : Nat} (k0 : 0 < k) {enc : X → List Value} {en : X → List D} (hen : ∀ x, en x = (enc x).map D.v) (hk : ∀ x, (enc x).length = k) (h1 : ∀ x, ∀ v ∈ enc x, v.oneCell' = true)
    (aE : ∀ w, (isAgg (ρ.t 24)).run P w = .ok true w) (zE : ∀ w, (Go.sizeOf (ρ.t 24)).run P w = .ok k w) {cf : X → X → Int} (hO : SWO (ltOf cf)) {g : Nat} (eg : ∀ args w, (callFunc g args).run P w = .ok (.enter g args) w)
    (hcmp : ∀ blk off size w, CmpLays P g #[] enc k cf blk off size w) {zs : List X} (hroom : decide (zs.length < 4611686018427387904) = true) :
    FT P (ρ.f 6) [.ref 0, .fn g [] []] [.row 0 E k (zs.map en)] [] (.tup []) [.row 0 E k ((pdqL cf zs).map en)] := by
  intro env w0 M O R0 hst _;obtain ⟨hs, cells, hown, hob, hcd⟩ := hst.holds _ (List.mem_singleton.2 rfl);have hfl : ∀ ys : List X, (ys.map en).flatten = (ys.flatMap enc).map D.v := by
    intro ys; induction ys with
    | nil => rfl
    | cons y ys ih => simp [ih, hen]
  have hpl : (pdqL cf zs).length = zs.length := (pdqL_perm hO zs).length_eq;have hcl : cells.length = zs.length * k := by have := hown.1; simpa using this
  have hcells : cells = zs.flatMap enc := by
    apply List.ext_getElem?;intro q
    by_cases hq : q < (zs.flatMap enc).length
    · obtain ⟨u, h2, h3, _⟩ := hcd q (D.v (zs.flatMap enc)[q]) (by rw [hfl, List.getElem?_map, List.getElem?_eq_getElem hq]; rfl);rw [h2, List.getElem?_eq_getElem hq];exact congrArg some h3
    · have hq2 := hq;rw [flat_len hk] at hq2;rw [List.getElem?_eq_none (by omega), List.getElem?_eq_none (by omega)]
  subst hcells;have hmax : zs.length < 4611686018427387904 := of_decide_eq_true hroom;have hone : ∀ ys : List X, ∀ v ∈ ys.flatMap enc, v.oneCell' = true := fun ys v hv => by
    obtain ⟨x, _, hx⟩ := List.mem_flatMap.1 hv;exact h1 x v hx
  have hrest : ∀ (W' : World), Keep (fun b => O 0 b) w0 W' → W'.ownsRow 0 E k (env 0) (pdqL cf zs).length ((pdqL cf zs).flatMap enc) →
      PostT ⟨w0, M, R0⟩ env [0] (.tup []) [.row 0 E k ((pdqL cf zs).map en)] (.returned (.tuple #[])) W' := by
    intro W' hkp how;have hst' := St.write (y := .row 0 E k ((pdqL cf zs).map en)) hst 0 rfl hkp rfl (by
      refine ⟨fun el hel => ?_, (pdqL cf zs).flatMap enc, ?_, hob, ?_⟩
      · obtain ⟨x, _, rfl⟩ := List.mem_map.1 hel;rw [hen, List.length_map, hk]
      · simpa using how
      · intro q d hd;rw [hfl, List.getElem?_map] at hd;obtain ⟨z, hz, rfl⟩ := Option.map_eq_some_iff.1 hd;exact ⟨z, hz, rfl, hone _ z (List.mem_of_getElem? hz)⟩)
    exact ⟨_, rfl, env, O, R0, fun _ _ => rfl, rfl, hst'⟩
  rcases hown with ⟨hlen, ⟨hv, hn⟩ | ⟨b, cap, cur, hv, hb, hg, hnc, hcm, hcs, htake⟩⟩
  · have hz : zs = [] := by simpa using hn
    have hv' : env 0 = .slice none 0 0 := hv;have ha : (AV.denL env [AV.ref 0, AV.fn g [] []]).toArray = #[.slice none 0 0, .func (.func g) #[] #[]] := by simp [AV.denL, AV.den, hv', oneOf]
    rw [ha];refine (AnyF.slices_SortFunc_none L none 0 _ w0).mono ?_
    rintro e w' ⟨rfl, rfl⟩
    refine hrest _ (Keep.refl _ _) ?_;have : pdqL cf zs = [] := List.eq_nil_of_length_eq_zero (by rw [hpl, hz]; rfl);rw [hv', this];exact ⟨by simp, .inl ⟨rfl, rfl⟩⟩
  · have hv' : env 0 = .slice (some ⟨b, 0, none⟩) zs.length cap := by simpa [NEnt.name] using hv
    have ha : (AV.denL env [AV.ref 0, AV.fn g [] []]).toArray = #[.slice (some ⟨b, 0, none⟩) zs.length cap, .func (.func g) #[] #[]] := by simp [AV.denL, AV.den, hv', oneOf]
    have hnc' : zs.length ≤ cap := by simpa using hnc
    have hcs' : cur.size = cap * k := by simpa using hcs
    have hle : zs.length * k ≤ cur.size := by rw [hcs']; exact Nat.mul_le_mul_right _ hnc'
    rw [ha];have hOg : O 0 b := hob b (by rw [hv']; rfl);have hgl : b < w0.heap.size := (Array.getElem?_eq_some_iff.1 hg).1;have hcon := AnyQ.slices_SortFunc_eq L k aE zE enc hk h1 cf hO g #[] b 0 cap zs.toArray w0 eg (hcmp _ _ _ _) (by
      intro j hj;rw [flatK_list k0 hk] at hj ⊢;have hj' : j < (zs.flatMap enc).length := by simpa using hj
      have hjc : j < zs.length * k := by rw [flat_len hk] at hj'; exact hj'
      have hcell : cur[j]? = some ((zs.flatMap enc)[j]) := by
        have h2 : (cur.toList.take (zs.length * k))[j]? = some ((zs.flatMap enc)[j]) := by
          have h3 := htake;simp only [List.length_map] at h3;rw [h3, List.getElem?_eq_getElem hj']
        rw [List.getElem?_take, if_pos hjc, Array.getElem?_toList] at h2;exact h2
      refine ⟨?_, ?_⟩
      · simp [World.cell?, hg, hcell, hj', List.getElem?_eq_getElem hj']
      · simp [World.frozen?, hg]) hgl (by simpa using hmax)
    simp only [List.size_toArray] at hcon;refine hcon.mono ?_
    rintro e w' ⟨rfl, q, os, rfl⟩
    have hpd : (pdq (ltOf cf) zs.toArray 0 zs.length (Lib.bitLen zs.length) true true) = (pdqL cf zs).toArray := by simp [pdqL]
    rw [hpd];refine hrest _ ?_ ?_
    · refine ⟨rfl, rfl, rfl, by simp [sortWorldK, grow, putRowK, putRow, mapBlock, ahead], fun q hq hne => ?_⟩;have hne' : b ≠ q := fun e => hne (by rw [← e]; exact hOg)
      have hq2 : q < (w0.heap.modify b (onCells (putCells id 0 (flatK enc k (pdqL cf zs).toArray)))).size := by rw [Array.size_modify]; exact hq
      show ((w0.heap.modify b (onCells (putCells id 0 (flatK enc k (pdqL cf zs).toArray)))) ++ os)[q]? = w0.heap[q]?;rw [Array.getElem?_append_left hq2, Array.getElem?_modify, if_neg hne']
    · rw [hv', hpl];have hlp : ((pdqL cf zs).flatMap enc).length = zs.length * k := by rw [flat_len hk, hpl]
      refine ⟨hlp, .inr ⟨b, cap, putCells id 0 ((pdqL cf zs).flatMap enc).toArray cur, rfl, Nat.zero_le _, ?_, hnc', hcm, ?_, ?_⟩⟩
      · have hk2 : b < (w0.heap.modify b (onCells (putCells id 0 (flatK enc k (pdqL cf zs).toArray)))).size := by rw [Array.size_modify]; exact hgl
        show ((w0.heap.modify b (onCells (putCells id 0 (flatK enc k (pdqL cf zs).toArray)))) ++ os)[b]? = _;rw [Array.getElem?_append_left hk2, Array.getElem?_modify, if_pos rfl, hg, flatK_list k0 hk]
        rfl
      · simp [putCells, hcs']
      · have h2 := take_putK (vs := (pdqL cf zs).flatMap enc) (cur := cur.toList) (by rw [hlp]; simpa using hle);rw [hlp] at h2
        simpa using h2
end Go.Proofs.Ytgkoldcmbcbbpaa.Sy
end
