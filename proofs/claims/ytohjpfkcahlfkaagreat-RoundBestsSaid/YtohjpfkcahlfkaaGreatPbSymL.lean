/- The small logic of symbolic states: nil slices inside structs get names. -/
import Derived.Test.YtohjpfkcahlfkaaGreatPbSymK
set_option linter.unusedSimpArgs false
set_option linter.unusedVariables false
namespace Go.Proofs.YtohjpfkcahlfkaaGreat.Sy
open Go.RowKit
section
variable {P : Program} {c : Ctx} {sz : Fm} {Q : Exit → Act → World → Prop} {t : List Item} {s : List (Nat × AV)} {V : List NEnt} {ops : Array Oper} {rest : List Oper}
theorem hold_nl {env : Env} {W : World} {O R : Nat → Prop} {b n : Nat} {cells : List AV} {T : TypeId} (hb : b ≠ n) :
    ((NEnt.blk b (AV.nlL n cells) T).holds env W O R → (NEnt.blk b cells T).holds (setEnv env n (.slice none 0 0)) W O R) ∧ ((NEnt.rob b (AV.nlL n cells) T).holds env W O R → (NEnt.rob b cells T).holds (setEnv env n (.slice none 0 0)) W O R) := by
  constructor
  · rintro ⟨q, h1, h2, h3⟩
    rw [AV.denL_nl] at h3
    exact ⟨q, by rw [setEnv_other (Ne.symm hb)]; exact h1, h2, h3⟩
  · rintro ⟨q, h1, h2, h3⟩
    rw [AV.denL_nl] at h3
    exact ⟨q, by rw [setEnv_other (Ne.symm hb)]; exact h1, h2, h3⟩
theorem nil_swap {env : Env} {W : World} {O : Nat → Nat → Prop} {R : Nat → Prop} {x y z : NEnt} {n k : Nat} (hst : St c env (z :: V) W O R) (hk : V[k]? = some x) (hn : y.name = x.name) (hy : y.holds env W (O x.name) R) : St c env (z :: V.set k y) W O R :=
  hst.write (k + 1) (by simpa using hk) (Keep.refl _ _) hn hy
theorem nilCellR (k n E size b : Nat) (els : List (List D)) (cells : List AV) {T : TypeId} (he : els = []) (hk : V[k]? = some (.blk b (AV.nlL n cells) T)) (hf : freshN [.row n E size els] s V = true) :
    (TC P c sz Q t s (.row n E size els :: V.set k (.blk b cells T)) → TC P c sz Q t s V) ∧ (TL P c sz Q ops rest t s (.row n E size els :: V.set k (.blk b cells T)) → TL P c sz Q ops rest t s V) := by
  subst he
  have hf' : hasS n s = false ∧ hasV n V = false := by simpa [freshN, NEnt.name] using hf
  refine ghost fun env tm W O R hfr hst => ?_
  have hadd := hst.addRo (x := .row n E size []) (v := .slice none 0 0) hf'.2 fun O => by
    simp only [NEnt.holds, NEnt.name, setEnv_same]
    exact ⟨by simp, [], World.ownsRow_nil _ _ _ _, by simp [Value.ownBlock], by simp⟩
  have hm := List.mem_of_getElem? hk
  have hbn : b ≠ n := fun e => by have := hasV_mem hf'.2 hm; simp [NEnt.has, e] at this
  refine ⟨setEnv env n (.slice none 0 0), _, R, ⟨hfr.1, fun t a ha => by rw [hfr.2 t a ha, AV.den_congr a (fun m hm => (setEnv_other (n := n) (m := m) fun e => by subst e; rw [look_has ha hm] at hf'; cases hf'.1).symm)]⟩, nil_swap (n := n) hadd hk rfl ?_⟩
  have h1 := (hold_nl (n := n) hbn).1 (hst.holds _ hm)
  simpa [NEnt.name, hbn] using h1
end
section
variable {P : Program} {o : Oper} {ρ : Operand → Option AV}
def shK (k : IntKind) (y : Int) : Nat := 2 ^ (min y.toNat k.bits)
theorem sp_shr {x y : Operand} {T U : TypeId} {k k' : IntKind} {m n : Int} (ho : o.op = .binOp .shr T x y U) (hx : ρ x = some (.val (.int k m))) (hy : ρ y = some (.val (.int k' n))) (h0 : decide (0 ≤ n) = true) : OpSpec P o ρ [] (.val (.int k (m / (shK k n : Int)))) [] :=
  .pure fun ev env W O R he _ => by
    have h0' : ¬ n < 0 := by simpa using h0
    have hp : (0 : Int) ≤ 2 ^ (min n.toNat k.bits) := Int.pow_nonneg (by decide)
    simp [execOp, ho, he x _ hx, he y _ hy, AV.den, eqGuard, binOp, Op.shift, h0', shK, Int.fdiv_eq_ediv_of_nonneg _ hp]
def bitK (k : IntKind) (op : BinOp) (x y : Int) : Int := match op with
  | .and => k.wrap (BitVec.ofInt k.bits x &&& BitVec.ofInt k.bits y).toNat
  | .or => k.wrap (BitVec.ofInt k.bits x ||| BitVec.ofInt k.bits y).toNat
  | .xor => k.wrap (BitVec.ofInt k.bits x ^^^ BitVec.ofInt k.bits y).toNat
  | _ => k.wrap (BitVec.ofInt k.bits x &&& ~~~ BitVec.ofInt k.bits y).toNat
theorem sp_bit {x y : Operand} {T U : TypeId} {k : IntKind} {m n : Int} (op : BinOp) (ho : o.op = .binOp op T x y U) (hop : (op == .and || op == .or || op == .xor || op == .andNot) = true) (hx : ρ x = some (.val (.int k m))) (hy : ρ y = some (.val (.int k n))) : OpSpec P o ρ [] (.val (.int k (bitK k op m n))) [] :=
  .pure fun ev env W O R he _ => by
    cases op <;> first | (exfalso; revert hop; decide) | simp [execOp, ho, he x _ hx, he y _ hy, AV.den, eqGuard, binOp, Op.intBits, bitK]
theorem sp_shl {x y : Operand} {T U : TypeId} {k k' : IntKind} {m n : Int} (ho : o.op = .binOp .shl T x y U) (hx : ρ x = some (.val (.int k m))) (hy : ρ y = some (.val (.int k' n))) (h0 : decide (0 ≤ n) = true) (hz : inK k (m * (shK k n : Int)) = true) : OpSpec P o ρ [] (.val (.int k (m * (shK k n : Int)))) [] :=
  .pure fun ev env W O R he _ => by
    have h0' : ¬ n < 0 := by simpa using h0
    have hz' := wrap_inK hz
    simp only [shK, Int.natCast_pow, Int.cast_ofNat_Int] at hz'
    simp [execOp, ho, he x _ hx, he y _ hy, AV.den, eqGuard, binOp, Op.shift, h0', shK, hz']
end
end Go.Proofs.YtohjpfkcahlfkaaGreat.Sy
