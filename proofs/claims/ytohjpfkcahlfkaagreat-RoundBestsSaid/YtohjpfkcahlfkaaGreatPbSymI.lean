/- The small logic of symbolic states: the forms that the printed proofs use. -/
import Derived.Test.YtohjpfkcahlfkaaGreatPbSymH
set_option linter.unusedSimpArgs false
set_option linter.unusedVariables false
namespace Go.Proofs.YtohjpfkcahlfkaaGreat.Sy
open Go.RowKit
def NEnt.isRoB : NEnt → Bool
  | .row _ _ _ _ => false
  | .blk _ _ _ => false
  | .inv _ _ => false
  | _ => true
theorem roAll {need : List NEnt} (h : need.all NEnt.isRoB = true) : ∀ x ∈ need, x.toRo = x := fun x hx => by
  have := List.all_eq_true.1 h x hx
  cases x <;> first | rfl | cases this
theorem map_len {α β : Type} {xs : List α} {f : α → List β} {size : Nat} (h : ∀ x, (f x).length = size) : ∀ el ∈ xs.map f, el.length = size := fun el he => by
  obtain ⟨x, _, rfl⟩ := List.mem_map.1 he
  exact h x
section
variable {P : Program} {o : Oper} {ρ : Operand → Option AV}
theorem sp_lenM {T E : TypeId} {size n N : Nat} {x : Operand} {els : List (List D)} {y : NEnt} (hl : els.length = N) (ho : o.op = .call { callee := .builtin .len, args := #[x], argTypes := #[T] }) (hx : ρ x = some (.ref n)) (hy : IsRow y n size els) (hT : P.underlying T = some (.slice E)) :
    OpSpec P o ρ [y] (.val (.int .i64 (N : Int))) [] := by subst hl; exact sp_len ho hx hy hT
theorem sp_sliceM {T E : TypeId} {size bytes n N : Nat} (m : Nat) {x : Operand} {lo hi : Option Operand} {l h : Int} {els els' : List (List D)} (hl : els.length = N) (ho : o.op = .slice T x lo hi none) (hx : ρ x = some (.ref n)) (hT : SlT P T E size bytes)
    (hlo : Cut ρ lo 0 l) (hhi : Cut ρ hi (N : Int) h) (hb : (decide (0 ≤ l) && (decide (l ≤ h) && decide (h ≤ (N : Int)))) = true) (he : (els.take h.toNat).drop l.toNat = els') :
    OpSpec P o ρ [.ro n size els] (.ref m) [.ro m size els'] := by subst hl; exact sp_slice m ho hx hT hlo hhi hb he
end
section
variable {P : Program} {c : Ctx} {sz : Fm} {Q : Exit → Act → World → Prop} {t : List Item} {s : List (Nat × AV)} {V : List NEnt} {ops : Array Oper} {rest : List Oper} {o : Oper}
theorem appM (k j : Nat) {T E size bytes n m d N N2 : Nat} (r : Nat) {x y : Operand} {els els2 els3 : List (List D)} {ym : NEnt} (ho : o.op = .call { callee := .builtin .append, args := #[x, y], argTypes := #[T, T] }) (hd : o.dst = some d) (hw : Wanted ops s o) (hlt : Nat.blt d sz.sz = true)
    (hx : rho s x = some (.ref n)) (hk : V[k]? = some (.row n E size els)) (hy : rho s y = some (.ref m)) (hm : V[j]? = some ym) (hym : IsRow ym m size els2) (hnm : (m == n) = false) (hT : SlT P T E size bytes) (h1 : els.length = N) (h2 : els2.length = N2) (hroom : room bytes (N + N2) = true)
    (he : els ++ els2 = els3) (hf : freshN [.row r E size els3] s V = true) (h : TL P c sz Q ops rest t ((d, .ref r) :: s) (.row r E size els3 :: V.eraseIdx k)) : TL P c sz Q ops (o :: rest) t s V := by
  subst h1; subst h2; subst he
  exact TL.append k r ho hd hw (by simpa [Nat.blt_eq] using hlt) hx hk hy (mem_at j hm) hym (by simpa using hnm) hT hroom hf h
theorem stoB (k : Nat) {T n off : Nat} {x y : Operand} {cells : List AV} {T' : TypeId} {a : AV} {N : Nat} {ag : Bool} (ho : o.op = .store T x y) (hd : o.dst = none) (hw : Wanted ops s o) (hx : rho s x = some (.ptr n off)) (hk : V[k]? = some (.blk n cells T')) (hy : rho s y = some a) (hfl : a.flat = true)
    (hT : VarT P T N ag) (hN : a.cs.length = N) (hle : Nat.ble (off + a.cs.length) cells.length = true) {cells' : List AV} (hc : cells.take off ++ a.cs ++ cells.drop (off + a.cs.length) = cells') (h : TL P c sz Q ops rest t s (V.set k (.blk n cells' T'))) : TL P c sz Q ops (o :: rest) t s V := by
  subst hc; subst hN
  exact TL.storeB k ho hd hw hx hk hy hfl hT.sizeOf (Nat.le_of_ble_eq_true hle) h
theorem stoR (k : Nat) {T n kk size E : Nat} (i j : Nat) {x y : Operand} {els els' : List (List D)} {el ds : List D} {a : AV} {need : List NEnt} {N : Nat} {ag : Bool} (is : List Nat) (ho : o.op = .store T x y) (hd : o.dst = none) (hw : Wanted ops s o) (hx : rho s x = some (.cell n kk)) (hk : V[k]? = some (.row n E size els))
    (hy : rho s y = some a) (hfl : a.flat = true) (hT : VarT P T N ag) (hN : a.cs.length = N) (hkk : kk = i * size + j) (hi : els[i]? = some el) (hle : Nat.ble (j + a.cs.length) size = true) (hpos : Nat.blt 0 size = true) (hneed : At V is need) (had : ADL need a.cs ds)
    (he : els.set i (el.take j ++ ds ++ el.drop (j + ds.length)) = els') (h : TL P c sz Q ops rest t s (V.set k (.row n E size els'))) : TL P c sz Q ops (o :: rest) t s V := by
  subst he; subst hN
  exact TL.storeR k ho hd hw hx hk hy hfl hT.sizeOf hkk hi (Nat.le_of_ble_eq_true hle) (by simpa [Nat.blt_eq] using hpos) hneed.mem had h
end
mutual
def AV.nl (k : Nat) : AV → AV
  | .val v => .val v
  | .ref m => if m = k then .val (.slice none 0 0) else .ref m
  | .ptr m o => if m = k then .val (.bool false) else .ptr m o
  | .cell m o => if m = k then .val (.bool false) else .cell m o
  | .agg cs => .agg (AV.nlL k cs)
  | .tup cs => .tup (AV.nlL k cs)
  | .fn f a b => .fn f (AV.nlL k a) (AV.nlL k b)
def AV.nlL (k : Nat) : List AV → List AV
  | [] => []
  | a :: l => a.nl k :: AV.nlL k l
end
mutual
theorem AV.den_nl (e : Env) (k : Nat) : ∀ (a : AV), (a.nl k).den e = a.den (setEnv e k (.slice none 0 0))
  | .val _ => rfl
  | .ref m => by
    simp only [AV.nl]
    split
    · rename_i h; subst h; simp [AV.den, setEnv_same, oneOf]
    · rename_i h; simp [AV.den, setEnv_other (Ne.symm h)]
  | .ptr m _ => by
    simp only [AV.nl]
    split
    · rename_i h; subst h; simp [AV.den, setEnv_same, blockOff]
    · rename_i h; simp [AV.den, setEnv_other (Ne.symm h)]
  | .cell m _ => by
    simp only [AV.nl]
    split
    · rename_i h; subst h; simp [AV.den, setEnv_same, cellAt]
    · rename_i h; simp [AV.den, setEnv_other (Ne.symm h)]
  | .agg cs => by simp only [AV.nl, AV.den, AV.denL_nl e k cs]
  | .tup cs => by simp only [AV.nl, AV.den, AV.denL_nl e k cs]
  | .fn f a b => by simp only [AV.nl, AV.den, AV.denL_nl e k a, AV.denL_nl e k b]
theorem AV.denL_nl (e : Env) (k : Nat) : ∀ (l : List AV), AV.denL e (AV.nlL k l) = AV.denL (setEnv e k (.slice none 0 0)) l
  | [] => rfl
  | a :: l => by simp only [AV.nlL, AV.denL, AV.den_nl e k a, AV.denL_nl e k l]
end
theorem FC.nil {P : Program} {f : Nat} {args : List AV} {need news : List NEnt} {v : AV} (k size : Nat) (h : FC P f args (.ro k size [] :: need) v news) (hk : hasV k need = false) (hv : v.has k = false) (hn : hasV k news = false) :
    FC P f (AV.nlL k args) need v news := by
  intro env w0 R0 hnd hR
  rw [AV.denL_nl]
  refine (h (setEnv env k (.slice none 0 0)) w0 R0 (fun x hx => ?_) hR).mono ?_
  · rcases List.mem_cons.1 hx with rfl | hx
    · simp only [NEnt.holds, setEnv_same]
      exact ⟨none, 0, rfl, Nat.le_refl _, Nat.zero_le _, fun _ => rfl, by simp⟩
    · exact NEnt.holds_congr (fun n hn' => (setEnv_other fun e => by subst e; rw [hasV_mem hk hx] at hn'; cases hn').symm) (hnd x hx)
  rintro e W' ⟨u, he, env', O', R', h1, h2, hst⟩
  have hc : ∀ n, n ≠ k → setEnv env' k (env k) n = env' n := fun n hne => setEnv_other (Ne.symm hne)
  refine ⟨u, he, setEnv env' k (env k), O', R', fun n hn' => ?_, ?_, hst.keep, fun x hx => ?_, hst.own, hst.apart, hst.ro, hst.r0, hst.names⟩
  · by_cases e : n = k
    · subst e; rw [setEnv_same]
    · rw [hc n e, h1 n hn', setEnv_other (Ne.symm e)]
  · rw [h2]
    exact AV.den_congr v fun n hn' => (hc n fun e => by subst e; rw [hv] at hn'; cases hn').symm
  · exact NEnt.holds_congr (fun n hn' => (hc n fun e => by subst e; rw [hasV_mem hn hx] at hn'; cases hn').symm) (hst.holds x hx)
end Go.Proofs.YtohjpfkcahlfkaaGreat.Sy
