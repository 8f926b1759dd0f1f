/- Maps to pointers: what a key leads to is a frozen block. -/
import Derived.Test.YtohjpfkcahlfkaaGreatPbSymZ
set_option linter.unusedSimpArgs false
set_option linter.unusedVariables false
namespace Go.Proofs.YtohjpfkcahlfkaaGreat.Sy
open Go.RowKit Instr
section
variable {P : Program} {o : Oper} {ρ : Operand → Option AV}
def evO {ν : Type} (ev : ν → List D) : Option ν → List D
  | none => [D.v (.pointer none)]
  | some v => ev v
theorem EsOk.opt {κ ν : Type} {ek : κ → Value} {ag : Bool} {ev : ν → List D} {W : World} {R : Nat → Prop} {es : List MapEntry} {xs : List (κ × ν)} (h : EsOk ek ag ev W R es xs) : EsOk ek ag (evO ev) W R es (xs.map fun x => (x.1, some x.2)) := by
  induction h with
  | nil => exact .nil
  | cons h1 h2 _ ih => exact .cons h1 h2 ih
theorem mfind_opt {κ ν : Type} [BEq κ] (xs : List (κ × ν)) (k : κ) : mfind (xs.map fun x => (x.1, some x.2)) k = mfind xs k := by
  simp [mfind, List.map_map, Function.comp_def]
theorem mlook_opt {κ ν : Type} [BEq κ] (xs : List (κ × ν)) (k : κ) : mlook (xs.map fun x => (x.1, some x.2)) k = (mlook xs k).map some := by
  simp only [mlook, mfind_opt]
  cases mfind xs k with
  | none => rfl
  | some i => simp [List.getElem?_map]; cases xs[i]? <;> rfl
theorem look_ptr {κ ν : Type} [BEq κ] {M K V : TypeId} {ek : κ → Value} {ev : ν → List D} {xs : List (κ × ν)} {W : World} {R : Nat → Prop} {r cl : Nat} {es : Array MapEntry} (hk : MKey P M K V ek) (h : W.heap[r]? = some (.map es cl)) (hes : EsOk ek false ev W R es.toList xs) (k : κ)
    (hz : ∀ w, (zeroValue V).run P w = .ok (.pointer none) w) : ∃ v, VOk false (evO ev (mlook xs k)) W R v ∧ (Instr.lookup M (.map (some r)) (ek k) true).run P W = .ok (.tuple #[v, .bool (mlook xs k).isSome]) W := by
  obtain ⟨v, h1, h2⟩ := look_val hk h hes.opt k none (z := .pointer none) hz ⟨[.pointer none], rfl, rfl, rfl, fun j d hj => by
    cases j with
    | zero => simp [evO] at hj; subst hj; exact ⟨_, rfl, rfl, rfl⟩
    | succ j => simp [evO] at hj⟩ true
  rw [mlook_opt] at h1 h2
  have e : ((mlook xs k).map some).getD none = mlook xs k := by cases mlook xs k <;> rfl
  have e2 : ((mlook xs k).map some).isSome = (mlook xs k).isSome := by cases mlook xs k <;> rfl
  rw [e] at h1
  rw [e2] at h2
  exact ⟨v, h1, h2⟩
theorem sp_lookupN {κ ν : Type} [BEq κ] [LawfulBEq κ] {M K V n : Nat} {x i : Operand} {ek : κ → Value} {ev : ν → List D} {xs : List (κ × ν)} {y : NEnt} (k : κ) {ka : AV} (hN : mlook xs k = none) (ho : o.op = .lookup M x i true) (hx : ρ x = some (.ref n)) (hi : ρ i = some ka) (hka : ∀ e, ka.den e = ek k) (hy : IsMapE y n ek false ev xs) (hk : MKey P M K V ek)
    (hz : ∀ w, (zeroValue V).run P w = .ok (.pointer none) w) : OpSpec P o ρ [y] (.tup [.val (.pointer none), .val (.bool false)]) [] := by
  intro evl env W O R he hn _ hR
  obtain ⟨r, cl, es, ys, h1, h2, h3, h4⟩ := map_read hy (hn _ (List.mem_singleton.2 rfl))
  have hx' := he x _ hx
  simp only [AV.den, h1, oneOf] at hx'
  have hi' := he i _ hi
  rw [hka] at hi'
  obtain ⟨u, hu, hrun⟩ := look_ptr hk h2 h3 k hz
  rw [mlook_perm h4.1 h4.2.1, hN] at hu hrun
  have : (execOp evl o).run P W = .ok (.value (.tuple #[u, .bool false])) W := by
    simp only [execOp, ho, hx', hi', Sem.run_bind, hrun, Result.andThen_ok, Sem.run_pure, Option.isSome_none]
  rw [this]
  obtain ⟨cs, hc1, hc2, hc3, hc4⟩ := hu
  obtain ⟨u0, g1, g2, _⟩ := hc4 0 (D.v (.pointer none)) rfl
  have hu : u = .pointer none := by
    rw [hc2]
    cases cs with
    | nil => simp at g1
    | cons c l => simp at g1; subst g1; exact g2
  subst hu
  exact ⟨env, _, R, fun _ _ => rfl, by simp only [AV.den, AV.denL], St.roNews hR (by simp) (by simp)⟩
theorem sp_lookupS {κ ν : Type} [BEq κ] [LawfulBEq κ] {M K V n : Nat} {x i : Operand} {ek : κ → Value} {ev : ν → List D} {xs : List (κ × ν)} {y : NEnt} (m : Nat) (k : κ) (p : ν) {T : TypeId} {ds : List D} {as_ : List AV} {ns : List NEnt} {ka : AV} (hS : mlook xs k = some p) (ho : o.op = .lookup M x i true) (hx : ρ x = some (.ref n)) (hi : ρ i = some ka) (hka : ∀ e, ka.den e = ek k) (hy : IsMapE y n ek false ev xs) (hk : MKey P M K V ek)
    (hz : ∀ w, (zeroValue V).run P w = .ok (.pointer none) w) (hev : ev p = [D.p T ds]) (hd : DAL ds as_ ns) (hns : nodupB (m :: ns.map NEnt.name) = true) : OpSpec P o ρ [y] (.tup [.ptr m 0, .val (.bool true)]) (.rob m as_ T :: ns) := by
  intro evl env W O R he hn _ hR
  obtain ⟨r, cl, es, ys, h1, h2, h3, h4⟩ := map_read hy (hn _ (List.mem_singleton.2 rfl))
  have hx' := he x _ hx
  simp only [AV.den, h1, oneOf] at hx'
  have hi' := he i _ hi
  rw [hka] at hi'
  obtain ⟨u, hu, hrun⟩ := look_ptr hk h2 h3 k hz
  rw [mlook_perm h4.1 h4.2.1, hS] at hu hrun
  have : (execOp evl o).run P W = .ok (.value (.tuple #[u, .bool true])) W := by
    simp only [execOp, ho, hx', hi', Sem.run_bind, hrun, Result.andThen_ok, Sem.run_pure, Option.isSome_some]
  rw [this]
  obtain ⟨cs, hc1, hc2, hc3, hc4⟩ := hu
  simp only [evO, hev] at hc3 hc4
  obtain ⟨u0, g1, ⟨b, vs, q1, q2, q3, q4, q5⟩, _⟩ := hc4 0 _ rfl
  have hu : u = .pointer (some ⟨b, 0, none⟩) := by
    rw [hc2]
    cases cs with
    | nil => simp at g1
    | cons c l => simp at g1; subst g1; exact q1
  subst hu
  have hnd : (m :: ns.map NEnt.name).Nodup := nodup_of_B hns
  rw [List.nodup_cons] at hnd
  obtain ⟨env1, e1, e2, e3⟩ := hd.ok env W R vs q4.symm q5 hnd.2
  have hno : ∀ x ∈ ns, x.name ≠ m := fun x hx e => hnd.1 (List.mem_map.2 ⟨x, hx, e⟩)
  have hnm : AV.hasL m as_ = false := by
    cases e : AV.hasL m as_ with
    | false => rfl
    | true => obtain ⟨x, hx, en⟩ := hd.has e; exact absurd en (hno x hx)
  refine ⟨setEnv env1 m (.pointer (some ⟨b, 0, none⟩)), _, R, fun k hk => ?_, ?_, St.roNews hR (fun x hx O => ?_) (nodup_of_B hns)⟩
  · rw [setEnv_other (show m ≠ k from hk (.rob m as_ T) (by simp))]
    exact e1 k fun x hx => hk x (by simp [hx])
  · simp only [AV.den, AV.denL, setEnv_same, blockOff]
  · rcases List.mem_cons.1 hx with rfl | hx
    · simp only [NEnt.holds, setEnv_same]
      exact ⟨b, rfl, q2, by rw [denL_set hnm, e2]; exact q3⟩
    · refine NEnt.holds_congr (fun k hk => ?_) (e3 x hx O)
      have hxn : ∀ k, x.has k = true → k = x.name := fun k hk => hd.onlyName hx hk
      rw [setEnv_other (fun e => hno x hx (by rw [← hxn k hk]; exact e.symm))]
end
section
variable {P : Program} {c : Ctx} {sz : Fm} {Q : Exit → Act → World → Prop} {t : List Item} {s : List (Nat × AV)} {V : List NEnt}
theorem aliasB (k i n b m size : Nat) {els : List (List D)} {cells : List AV} (cells' : List AV) {T : TypeId} (hk : V[k]? = some (.blk b cells T)) (hi : V[i]? = some (.ro m size els)) (hc : cells = AV.renL (rnA [(n, m)]) cells') (hf : freshN [.ro n size els] s V = true)
    (h : TC P c sz Q t s (.ro n size els :: V.set k (.blk b cells' T))) : TC P c sz Q t s V := by
  have hf' : hasS n s = false ∧ hasV n V = false := by simpa [freshN, NEnt.name] using hf
  intro env tm W O R hfr hst
  have hr : reads size els W R (env m) := hst.holds _ (List.mem_of_getElem? hi)
  have hadd := hst.addRo (x := .ro n size els) (v := env m) hf'.2 fun O => by
    simp only [NEnt.holds, NEnt.name, setEnv_same]; exact hr
  have hm := List.mem_of_getElem? hk
  have hbn : b ≠ n := fun e => by have := hasV_mem hf'.2 hm; simp [NEnt.has, e] at this
  have hden : AV.denL (setEnv env n (env m)) cells' = AV.denL env cells := by
    rw [hc, AV.denL_ren]
    congr 1
    funext q
    simp only [rnA]
    by_cases e : n = q
    · subst e; rw [if_pos rfl, setEnv_same]
    · rw [if_neg e, setEnv_other e]
  refine h (setEnv env n (env m)) tm W _ R ⟨hfr.1, fun t a ha => by rw [hfr.2 t a ha, AV.den_congr a (fun m' hm' => (setEnv_other (n := n) (m := m') fun e => by subst e; rw [look_has ha hm'] at hf'; cases hf'.1).symm)]⟩ (nil_swap (n := n) hadd hk rfl ?_)
  have h1 : (NEnt.blk b cells T).holds env W (O b) R := hst.holds _ hm
  simp only [NEnt.holds] at h1 ⊢
  obtain ⟨a, g1, g2, g3⟩ := h1
  exact ⟨a, by rw [setEnv_other hbn.symm]; exact g1, by simpa [NEnt.name, hbn] using g2, by rw [hden]; exact g3⟩
end
def setK {β : Type} (k i : Nat) (w : β) : List β → List β
  | [] => []
  | x :: l => (cond (i == k) w x) :: setK (k + 1) i w l
theorem setK_eq {β : Type} (w : β) : ∀ (l : List β) (k i : Nat), k ≤ i → setK k i w l = l.set (i - k) w
  | [], k, i, _ => by simp [setK]
  | x :: l, k, i, h => by
    rw [setK]
    by_cases e : i = k
    · subst e
      have h2 : ∀ (l : List β) (k : Nat), i < k → setK k i w l = l := fun l => by
        induction l with
        | nil => intro k _; rfl
        | cons y l ih => intro k hk; rw [setK, ih (k + 1) (by omega), show (i == k) = false from beq_eq_false_iff_ne.2 (by omega)]; rfl
      rw [h2 l (i + 1) (by omega)]
      simp
    · rw [setK_eq w l (k + 1) i (by omega)]
      have : i - k = (i - (k + 1)) + 1 := by omega
      rw [this, List.set_cons_succ, show (i == k) = false from beq_eq_false_iff_ne.2 e]
      rfl
theorem arr_put {β : Type} {lit : β → AV} {cells cells' : List AV} {xs xs' : List β} {i off : Nat} {v w : β} (pre post : List AV) (hcells : cells = pre ++ xs.map lit ++ post) (hoff : off = pre.length + (i * 1 + 0)) (hi : xs[i]? = some v) (hx : xs' = setK 0 i w xs) (hc : cells' = pre ++ xs'.map lit ++ post) :
    Nat.ble (off + [lit w].length) cells.length = true ∧ cells.take off ++ [lit w] ++ cells.drop (off + [lit w].length) = cells' := by
  have hlt := (List.getElem?_eq_some_iff.1 hi).1
  have hx2 : xs' = xs.set i w := by rw [hx, setK_eq w xs 0 i (Nat.zero_le _), Nat.sub_zero]
  have ho : off = pre.length + i := by omega
  have hl : off < cells.length := by rw [hcells, ho]; simp; omega
  refine ⟨Nat.ble_eq_true_of_le (by simp; omega), ?_⟩
  have h1 : cells.take off ++ [lit w] ++ cells.drop (off + [lit w].length) = cells.set off (lit w) := by
    rw [List.set_eq_take_append_cons_drop, if_pos hl]; simp
  rw [h1, hc, hx2, hcells, ho, List.map_set, List.append_assoc, List.append_assoc, List.set_append_right _ _ (by omega), Nat.add_sub_cancel_left, List.set_append_left _ _ (by simpa using hlt)]
def lookW {α β : Type} (o : Option α) (e1 : Option β) (e2 : α → Option β) : Option β := match o with
  | none => e1
  | some p => e2 p
theorem lookW_inv {α β : Type} {o : Option α} {e1 : Option β} {e2 : α → Option β} {r : β} (h : lookW o e1 e2 = some r) : (o = none ∧ e1 = some r) ∨ ∃ p, o = some p ∧ e2 p = some r := by
  cases o with
  | none => exact .inl ⟨rfl, h⟩
  | some p => exact .inr ⟨p, rfl, h⟩
end Go.Proofs.YtohjpfkcahlfkaaGreat.Sy
