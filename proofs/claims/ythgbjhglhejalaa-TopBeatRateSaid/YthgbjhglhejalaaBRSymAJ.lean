/- Texts joined into one: SymA, SymB, SymC. -/
import Derived.WalkKit
import Derived.ControlIn
import Derived.OrdersIn
import Derived.TacticsIn
section
set_option linter.unusedSimpArgs false
set_option linter.unusedVariables false
namespace Go.Proofs.Ythgbjhglhejalaa.Sy
open Go.RowKit
abbrev Env := Nat → Value
inductive AV where
  | val (v : Value)
  | ref (n : Nat)
  | ptr (n off : Nat)
  | cell (n k : Nat)
  | agg (cs : List AV)
  | tup (cs : List AV)
  | fn (f : Nat) (first caps : List AV)
def blockOff (v : Value) (off : Nat) : Value := match v with
  | .pointer (some a) => .pointer (some ⟨a.block, off, none⟩)
  | _ => .bool false
def cellAt (v : Value) (k : Nat) : Value := match v with
  | .slice (some a) _ _ => .pointer (some (a.add k))
  | _ => .bool false
def oneOf (v : Value) : Value := match v with
  | .agg _ => .bool false
  | .tuple _ => .bool false
  | v => v
mutual
def AV.den (e : Env) : AV → Value
  | .val v => v
  | .ref n => oneOf (e n)
  | .ptr n off => blockOff (e n) off
  | .cell n k => cellAt (e n) k
  | .agg cs => .agg (AV.denL e cs).toArray
  | .tup cs => .tuple (AV.denL e cs).toArray
  | .fn f first caps => .func (.func f) (AV.denL e first).toArray (AV.denL e caps).toArray
def AV.denL (e : Env) : List AV → List Value
  | [] => []
  | a :: l => a.den e :: AV.denL e l
end
theorem AV.denL_map (e : Env) (l : List AV) : AV.denL e l = l.map (AV.den e) := by
  induction l with
  | nil => rfl
  | cons a l ih => simp [AV.denL, ih]
mutual
def AV.has (n : Nat) : AV → Bool
  | .val _ => false
  | .ref m => m == n
  | .ptr m _ => m == n
  | .cell m _ => m == n
  | .agg cs => AV.hasL n cs
  | .tup cs => AV.hasL n cs
  | .fn _ first caps => AV.hasL n first || AV.hasL n caps
def AV.hasL (n : Nat) : List AV → Bool
  | [] => false
  | a :: l => a.has n || AV.hasL n l
end
mutual
theorem AV.den_congr {e e' : Env} : ∀ (a : AV), (∀ n, a.has n = true → e n = e' n) → a.den e = a.den e'
  | .val _, _ => rfl
  | .ref m, h => by simp [AV.den, h m (by simp [AV.has])]
  | .ptr m _, h => by simp [AV.den, h m (by simp [AV.has])]
  | .cell m _, h => by simp [AV.den, h m (by simp [AV.has])]
  | .agg cs, h => by simp only [AV.den, AV.denL_congr cs (fun n hn => h n (by simp [AV.has, hn]))]
  | .tup cs, h => by simp only [AV.den, AV.denL_congr cs (fun n hn => h n (by simp [AV.has, hn]))]
  | .fn f a b, h => by simp only [AV.den, AV.denL_congr a (fun n hn => h n (by simp [AV.has, hn])), AV.denL_congr b (fun n hn => h n (by simp [AV.has, hn]))]
theorem AV.denL_congr {e e' : Env} : ∀ (l : List AV), (∀ n, AV.hasL n l = true → e n = e' n) → AV.denL e l = AV.denL e' l
  | [], _ => rfl
  | a :: l, h => by
    simp only [AV.denL];rw [AV.den_congr a (fun n hn => h n (by simp [AV.hasL, hn])), AV.denL_congr l (fun n hn => h n (by simp [AV.hasL, hn]))]
end
mutual
def AV.ren (p : Nat → Nat) : AV → AV
  | .val v => .val v
  | .ref m => .ref (p m)
  | .ptr m o => .ptr (p m) o
  | .cell m o => .cell (p m) o
  | .agg cs => .agg (AV.renL p cs)
  | .tup cs => .tup (AV.renL p cs)
  | .fn f a b => .fn f (AV.renL p a) (AV.renL p b)
def AV.renL (p : Nat → Nat) : List AV → List AV
  | [] => []
  | a :: l => a.ren p :: AV.renL p l
end
mutual
theorem AV.den_ren (e : Env) (p : Nat → Nat) : ∀ (a : AV), (a.ren p).den e = a.den (fun n => e (p n))
  | .val _ => rfl
  | .ref m => rfl
  | .ptr m _ => rfl
  | .cell m _ => rfl
  | .agg cs => by simp only [AV.ren, AV.den, AV.denL_ren e p cs]
  | .tup cs => by simp only [AV.ren, AV.den, AV.denL_ren e p cs]
  | .fn f a b => by simp only [AV.ren, AV.den, AV.denL_ren e p a, AV.denL_ren e p b]
theorem AV.denL_ren (e : Env) (p : Nat → Nat) : ∀ (l : List AV), AV.denL e (AV.renL p l) = AV.denL (fun n => e (p n)) l
  | [] => rfl
  | a :: l => by simp only [AV.renL, AV.denL, AV.den_ren e p a, AV.denL_ren e p l]
end
structure D where
  ok : World → (Nat → Prop) → Value → Prop
  mono : ∀ W W' (R R' : Nat → Prop), (∀ b, R b → R' b ∧ W'.heap[b]? = W.heap[b]?) → ∀ v, ok W R v → ok W' R' v
def D.v (x : Value) : D := ⟨fun _ _ v => v = x, fun _ _ _ _ _ _ h => h⟩
def reads (size : Nat) (els : List (List D)) (W : World) (R : Nat → Prop) (v : Value) : Prop :=
  ∃ a cap, v = .slice a els.length cap ∧ els.length ≤ cap ∧ cap ≤ maxLen ∧ (a = none → cap = 0) ∧
    ∀ i el, els[i]? = some el → el.length = size ∧ ∀ j d, el[j]? = some d → ∃ b o, a = some ⟨b, o, none⟩ ∧ R b ∧ ∃ u : Value, W.cell? ⟨b, o + (i * size + j), none⟩ = some u ∧ d.ok W R u ∧ u.oneCell' = true
theorem reads_mono {size : Nat} {els : List (List D)} {W W' : World} {R R' : Nat → Prop} (hm : ∀ b, R b → R' b ∧ W'.heap[b]? = W.heap[b]?) {v : Value}
    (h : reads size els W R v) : reads size els W' R' v := by
  obtain ⟨a, cap, h1, h2, h3, h4, h5⟩ := h;refine ⟨a, cap, h1, h2, h3, h4, fun i el hi => ⟨(h5 i el hi).1, fun j d hj => ?_⟩⟩;obtain ⟨b, o, ha, hb, u, hu, hd, h1⟩ := (h5 i el hi).2 j d hj;exact ⟨b, o, ha, (hm b hb).1, u, by rw [World.cell?_of_block (w := W) (hm b hb).2]; exact hu, d.mono W W' R R' hm u hd, h1⟩
def D.s (size : Nat) (els : List (List D)) : D := ⟨reads size els, fun _ _ _ _ hm _ h => reads_mono hm h⟩
def D.p (T : TypeId) (ds : List D) : D := ⟨fun W R v => ∃ (b : Nat) (vs : List Value), v = .pointer (some ⟨b, 0, none⟩) ∧ R b ∧ W.heap[b]? = some (.cells vs.toArray T (0, 0)) ∧ vs.length = ds.length ∧ ∀ (j : Nat) (d : D), ds[j]? = some d → ∃ u : Value, vs[j]? = some u ∧ d.ok W R u,
  fun W W' R R' hm v ⟨b, vs, h1, h2, h3, h4, h5⟩ => ⟨b, vs, h1, (hm b h2).1, by rw [(hm b h2).2]; exact h3, h4, fun j d hj => by obtain ⟨u, g1, g2⟩ := h5 j d hj; exact ⟨u, g1, d.mono W W' R R' hm u g2⟩⟩⟩
def owns (E : TypeId) (size : Nat) (els : List (List D)) (W : World) (O R : Nat → Prop) (v : Value) : Prop :=
  (∀ el ∈ els, el.length = size) ∧ ∃ cells : List Value, W.ownsRow 0 E size v els.length cells ∧ (∀ b, v.ownBlock = some b → O b) ∧
    ∀ (k : Nat) (d : D), els.flatten[k]? = some d → ∃ u : Value, cells[k]? = some u ∧ d.ok W R u ∧ u.oneCell' = true
structure Inv where
  ok : World → (Nat → Prop) → (Nat → Prop) → Value → Prop
  keep : ∀ W W' (O R R' : Nat → Prop), (∀ b, O b → W'.heap[b]? = W.heap[b]?) → (∀ b, R b → R' b ∧ W'.heap[b]? = W.heap[b]?) → ∀ v, ok W O R v → ok W' O R' v
def Inv.froz (I : Inv) : D := ⟨fun W R v => ∃ O : Nat → Prop, (∀ b, O b → R b) ∧ I.ok W O R v, fun W W' R R' hm v ⟨O, h1, h2⟩ => ⟨O, fun b hb => (hm b (h1 b hb)).1, I.keep W W' O R R' (fun b hb => (hm b (h1 b hb)).2) hm v h2⟩⟩
inductive NEnt where
  | blk (n : Nat) (cells : List AV) (T : TypeId)
  | row (n : Nat) (E : TypeId) (size : Nat) (els : List (List D))
  | ro (n : Nat) (size : Nat) (els : List (List D))
  | rob (n : Nat) (cells : List AV) (T : TypeId)
  | any (n : Nat) (d : D)
  | inv (n : Nat) (I : Inv)
  | pin (g n : Nat) (u : Value)
def NEnt.name : NEnt → Nat
  | .blk n _ _ => n
  | .row n _ _ _ => n
  | .ro n _ _ => n
  | .rob n _ _ => n
  | .any n _ => n
  | .inv n _ => n
  | .pin g _ _ => g
def NEnt.holds (e : Env) (W : World) (O R : Nat → Prop) : NEnt → Prop
  | .blk n cells T => ∃ b, e n = .pointer (some ⟨b, 0, none⟩) ∧ O b ∧ W.heap[b]? = some (.cells (AV.denL e cells).toArray T (0, 0))
  | .row n E size els => owns E size els W O R (e n)
  | .ro n size els => reads size els W R (e n)
  | .rob n cells T => ∃ b, e n = .pointer (some ⟨b, 0, none⟩) ∧ R b ∧ W.heap[b]? = some (.cells (AV.denL e cells).toArray T (0, 0))
  | .any n d => d.ok W R (e n)
  | .inv n I => I.ok W O R (e n)
  | .pin _ n u => e n = u
def NEnt.has (k : Nat) : NEnt → Bool
  | .blk n cells _ => n == k || AV.hasL k cells
  | .row n _ _ _ => n == k
  | .ro n _ _ => n == k
  | .rob n cells _ => n == k || AV.hasL k cells
  | .any n _ => n == k
  | .inv n _ => n == k
  | .pin g n _ => g == k || n == k
theorem NEnt.has_name (x : NEnt) : x.has x.name = true := by cases x <;> simp [NEnt.has, NEnt.name]
def NEnt.ren (p : Nat → Nat) : NEnt → NEnt
  | .blk n cells T => .blk (p n) (AV.renL p cells) T
  | .row n E size els => .row (p n) E size els
  | .ro n size els => .ro (p n) size els
  | .rob n cells T => .rob (p n) (AV.renL p cells) T
  | .any n d => .any (p n) d
  | .inv n I => .inv (p n) I
  | .pin g n u => .pin (p g) (p n) u
theorem NEnt.name_ren (p : Nat → Nat) (x : NEnt) : (x.ren p).name = p x.name := by cases x <;> rfl
theorem NEnt.holds_ren (e : Env) (p : Nat → Nat) (W : World) (O R : Nat → Prop) (x : NEnt) : (x.ren p).holds e W O R ↔ x.holds (fun n => e (p n)) W O R := by
  cases x <;> simp only [NEnt.ren, NEnt.holds, AV.denL_ren]
theorem NEnt.holds_congr {e e' : Env} {W : World} {O R : Nat → Prop} {x : NEnt} (h : ∀ n, x.has n = true → e n = e' n) (hx : x.holds e W O R) : x.holds e' W O R := by
  cases x with
  | blk n cells T =>
    simp only [NEnt.holds] at hx ⊢;rw [← h n (by simp [NEnt.has]), ← AV.denL_congr cells (fun m hm => h m (by simp [NEnt.has, hm]))];exact hx
  | row n E size els => simp only [NEnt.holds] at hx ⊢; rw [← h n (by simp [NEnt.has])]; exact hx
  | ro n size els => simp only [NEnt.holds] at hx ⊢; rw [← h n (by simp [NEnt.has])]; exact hx
  | rob n cells T =>
    simp only [NEnt.holds] at hx ⊢;rw [← h n (by simp [NEnt.has]), ← AV.denL_congr cells (fun m hm => h m (by simp [NEnt.has, hm]))];exact hx
  | any n d => simp only [NEnt.holds] at hx ⊢; rw [← h n (by simp [NEnt.has])]; exact hx
  | inv n I => simp only [NEnt.holds] at hx ⊢; rw [← h n (by simp [NEnt.has])]; exact hx
  | pin g n u => simp only [NEnt.holds] at hx ⊢; rw [← h n (by simp [NEnt.has])]; exact hx
theorem NEnt.holds_keep {e : Env} {W W' : World} {O R R' : Nat → Prop} {x : NEnt} (hO : ∀ b, O b → W'.heap[b]? = W.heap[b]?) (hR : ∀ b, R b → R' b ∧ W'.heap[b]? = W.heap[b]?)
    (hx : x.holds e W O R) : x.holds e W' O R' := by
  cases x with
  | blk n cells T =>
    obtain ⟨b, h1, h2, h3⟩ := hx;exact ⟨b, h1, h2, (hO b h2).trans h3⟩
  | row n E size els =>
    obtain ⟨h0, cells, h1, h2, h3⟩ := hx;refine ⟨h0, cells, ?_, h2, fun k d hk => ?_⟩
    · obtain ⟨hl, ho⟩ := h1;refine ⟨hl, ?_⟩;rcases ho with ho | ⟨g, cap, cur, hv, hb, hg, rest⟩
      · exact .inl ho
      · exact .inr ⟨g, cap, cur, hv, hb, (hO g (h2 g (by rw [hv]; rfl))).trans hg, rest⟩
    · obtain ⟨u, hu, hd, h1⟩ := h3 k d hk;exact ⟨u, hu, d.mono W W' R R' hR u hd, h1⟩
  | ro n size els => exact reads_mono hR hx
  | rob n cells T =>
    obtain ⟨b, h1, h2, h3⟩ := hx;exact ⟨b, h1, (hR b h2).1, (hR b h2).2.trans h3⟩
  | any n d => exact d.mono W W' R R' hR _ hx
  | inv n I => exact I.keep W W' O R R' hO hR _ hx
  | pin g n u => exact hx
structure Keep (M : Nat → Prop) (w w' : World) : Prop where
  os : w'.os = w.os
  tape : w'.tape = w.tape
  output : w'.output = w.output
  size : w.heap.size ≤ w'.heap.size
  block : ∀ k, k < w.heap.size → ¬ M k → w'.heap[k]? = w.heap[k]?
theorem Keep.refl (M : Nat → Prop) (w : World) : Keep M w w := ⟨rfl, rfl, rfl, Nat.le_refl _, fun _ _ _ => rfl⟩
theorem Keep.trans {M : Nat → Prop} {a b c : World} {N : Nat → Prop} (h : Keep M a b) (k : Keep N b c) (hN : ∀ i, i < a.heap.size → N i → M i) : Keep M a c :=
  ⟨k.os.trans h.os, k.tape.trans h.tape, k.output.trans h.output, Nat.le_trans h.size k.size, fun i hi hm => (k.block i (Nat.lt_of_lt_of_le hi h.size) (fun x => hm (hN i hi x))).trans (h.block i hi hm)⟩
theorem Keep.below {w w' : World} (h : Keep (fun _ => False) w w') : Below w.heap.size w w' := ⟨h.os, h.tape, h.output, h.size, fun k hk => h.block k hk (fun x => x)⟩
theorem Keep.of_below {w w' : World} (h : Below w.heap.size w w') : Keep (fun _ => False) w w' := ⟨h.os, h.tape, h.output, h.size, fun k hk _ => h.block k hk⟩
structure Ctx where
  w0 : World
  M : Nat → Prop
  R0 : Nat → Prop
structure St (c : Ctx) (env : Env) (V : List NEnt) (W : World) (O : Nat → Nat → Prop) (R : Nat → Prop) : Prop where
  keep : Keep c.M c.w0 W
  holds : ∀ x ∈ V, x.holds env W (O x.name) R
  own : ∀ x ∈ V, ∀ b, O x.name b → b < W.heap.size ∧ (c.w0.heap.size ≤ b ∨ c.M b) ∧ ¬ R b
  apart : ∀ x ∈ V, ∀ y ∈ V, x.name ≠ y.name → ∀ b, ¬ (O x.name b ∧ O y.name b)
  ro : ∀ b, R b → b < W.heap.size ∧ (c.w0.heap.size ≤ b ∨ c.R0 b ∨ c.M b)
  r0 : ∀ b, c.R0 b → R b
  names : (V.map NEnt.name).Nodup
def look : List (Nat × AV) → Nat → Option AV
  | [], _ => none
  | (k, a) :: l, t => if k = t then some a else look l t
def hasS (n : Nat) : List (Nat × AV) → Bool
  | [] => false
  | (_, a) :: l => a.has n || hasS n l
def hasV (n : Nat) : List NEnt → Bool
  | [] => false
  | x :: l => x.has n || hasV n l
def Fr (env : Env) (sz : Nat) (s : List (Nat × AV)) (tm : Array Value) : Prop := tm.size = sz ∧ ∀ t a, look s t = some a → tm[t]? = some (a.den env)
theorem look_has {s : List (Nat × AV)} {t : Nat} {a : AV} (h : look s t = some a) {n : Nat} (hn : a.has n = true) : hasS n s = true := by
  induction s with
  | nil => cases h
  | cons x l ih =>
    obtain ⟨k, b⟩ := x;simp only [look] at h;simp only [hasS, Bool.or_eq_true]
    split at h
    · cases h; exact .inl hn
    · exact .inr (ih h)
theorem mem_has {V : List NEnt} {x : NEnt} (h : x ∈ V) {n : Nat} (hn : x.has n = true) : hasV n V = true := by
  induction V with
  | nil => cases h
  | cons y l ih =>
    simp only [hasV, Bool.or_eq_true]
    cases h with
    | head => exact .inl hn
    | tail _ h => exact .inr (ih h)
theorem Fr.congr {env env' : Env} {sz : Nat} {s : List (Nat × AV)} {tm : Array Value} (h : Fr env sz s tm) (he : ∀ n, hasS n s = true → env n = env' n) : Fr env' sz s tm :=
  ⟨h.1, fun t a ha => by rw [h.2 t a ha, AV.den_congr a (fun n hn => he n (look_has ha hn))]⟩
theorem Fr.put {env : Env} {sz : Nat} {s : List (Nat × AV)} {tm : Array Value} (h : Fr env sz s tm) {d : Nat} (hd : d < sz) {a : AV} : Fr env sz ((d, a) :: s) (tm.setIfInBounds d (a.den env)) := by
  refine ⟨by simpa using h.1, fun t b hb => ?_⟩;simp only [look] at hb
  split at hb
  · rename_i e; subst e; cases hb
    simp [Array.getElem?_setIfInBounds, h.1, hd]
  · rename_i e
    rw [Array.getElem?_setIfInBounds, if_neg e];exact h.2 t b hb
theorem Fr.putNone {env : Env} {sz : Nat} {s : List (Nat × AV)} {tm : Array Value} (h : Fr env sz s tm) {d : Nat} {v : Value} (hd : look s d = none) : Fr env sz s (tm.setIfInBounds d v) := by
  refine ⟨by simpa using h.1, fun t b hb => ?_⟩;rw [Array.getElem?_setIfInBounds, if_neg (fun e => by subst e; rw [hd] at hb; cases hb)];exact h.2 t b hb
theorem Fr.sub {env : Env} {sz : Nat} {s s' : List (Nat × AV)} {tm : Array Value} (h : Fr env sz s tm) (hs : ∀ t a, look s' t = some a → look s t = some a) : Fr env sz s' tm :=
  ⟨h.1, fun t a ha => h.2 t a (hs t a ha)⟩
def rho (s : List (Nat × AV)) : Operand → Option AV
  | .tmp t => look s t
  | .const v => some (.val v)
  | .global g => none
  | .func f => some (.fn f [] [])
theorem rho_eval {env : Env} {sz : Nat} {s : List (Nat × AV)} {tm : Array Value} (h : Fr env sz s tm) {x : Operand} {a : AV} (hx : rho s x = some a) {df : List Deferred} : (Act.eval ⟨tm, df⟩ x) = a.den env := by
  cases x with
  | tmp t => have := h.2 t a hx; simp [Act.eval, this]
  | const v => simp only [rho, Option.some.injEq] at hx; subst hx; rfl
  | global g => cases hx
  | func f => simp only [rho, Option.some.injEq] at hx; subst hx; rfl
def Does (P : Program) (r : Result Next) (K : Value → World → Prop) : Prop :=
  match r with
  | .ok (.value v) w => K v w
  | .ok .skip w => K undef w
  | .ok (.enter f args) w => Calls P f args w fun e w' => ∃ v, e = .returned v ∧ K v w'
  | .ok (.round l f tmps assign body) w => RoundIn Fence.wide 0 P l f tmps assign body w fun e w' => ∃ v, e = .returned v ∧ K v w'
  | _ => False
def fw (ro : Option Nat) : Fence := { Fence.wide with round := ro }
theorem fw_room (ro : Option Nat) (n : Nat) : (fw ro).room n := fun d h => by cases h
theorem fw_calm {P : Program} {ro : Option Nat} {fr : Frame} {cs : List Frame} {w : World} (ha : fr.about P w = none) : (lone fr cs w).fenced P (fw ro) :=
  fenced_calm (n := 0) trivial (fw_room _ _) ha
theorem callsIn_fw {P : Program} {ro : Option Nat} {n : Nat} {f : FuncId} {args : Array Value} {w : World} {R : Ending → World → Prop} (h : Calls P f args w R) : CallsIn (fw ro) n P f args w R :=
  (show CallsIn Fence.wide n P f args w R from callsIn_wide.2 h)
theorem Does.inn {P : Program} {ro : Option Nat} {K : Value → World → Prop} {o : Oper} {a : Act} {w : World} {next : Act → World → Prop} {Q : Exit → Act → World → Prop}
    (h : Does P ((execOp a.eval o).run P w) K) (hk : ∀ v w, K v w → next (a.put o.dst v) w) : o.wpIn (fw ro) 0 P a w next Q := by
  refine ⟨fun _ _ => trivial, ?_⟩;have hd : ∀ c, o.op ≠ .defer c := fun c hc => by
    simp only [execOp, hc, Sem.run_bind] at h
    cases hr : (resolve a.eval c o.type).run P w with
    | ok n w' => rw [hr] at h; simp [Result.andThen_ok, Sem.run_pure, Does] at h
    | halt x w' => rw [hr] at h; exact h
  rw [Oper.semAt_eq _ _ _ hd]
  cases hr : (execOp a.eval o).run P w with
  | ok n w =>
    rw [hr] at h;cases n <;> simp only [Does] at h <;> try exact h.elim
    · exact hk _ _ h
    · exact hk _ _ h
    · exact ⟨(fun h => by cases h), CallsIn.mono (callsIn_fw h) fun e w' ⟨v, he, hv⟩ => by subst he; exact hk _ _ hv⟩
    · exact ⟨(fun h => by cases h), RoundIn.mono (F := fw ro) (show RoundIn Fence.wide 0 P _ _ _ _ _ _ _ from h) fun e w' ⟨v, he, hv⟩ => by subst he; exact hk _ _ hv⟩
  | halt x w => rw [hr] at h; exact h.elim
theorem Does.mono {P : Program} {r : Result Next} {K K' : Value → World → Prop} (h : Does P r K) (hk : ∀ v w, K v w → K' v w) : Does P r K' := by
  cases r with
  | ok n w =>
    cases n <;> simp only [Does] at h ⊢ <;> try exact h.elim
    · exact hk _ _ h
    · exact hk _ _ h
    · exact Calls.mono h fun e w' ⟨v, he, hv⟩ => ⟨v, he, hk _ _ hv⟩
    · exact RoundIn.mono h fun e w' ⟨v, he, hv⟩ => ⟨v, he, hk _ _ hv⟩
  | halt x w => exact h.elim
def Gw (P : Program) (ro : Option Nat) (todo : List Item) (Q : Exit → Act → World → Prop) (a : Act) (w : World) : Prop :=
  ∀ (b : Frame) (k : List Item) (cs : List Frame), b.roundOf = ro → ∃ e a' w', Q e a' w' ∧ ArrivesIn (Machine.fenced P (fw ro)) P (lone (b.atR a (todo ++ k)) cs w) b k cs e a' w'
section
variable {P : Program} {ro : Option Nat} {Q : Exit → Act → World → Prop} {a : Act} {w : World} {t : List Item}
theorem Gw.step {x : Item} (hx : ∀ (b : Frame) (k : List Item), (b.atR a (x :: k)).about P w = none) (m : ∀ (b : Frame) (k : List Item) (cs : List Frame), ∃ t' : List Item, (Go.step P (lone (b.atR a (x :: t ++ k)) cs w) = .next (lone (b.atR a (t' ++ k)) cs w)) ∧ Gw P ro t' Q a w) : Gw P ro (x :: t) Q a w := by
  intro b k cs hb;obtain ⟨t', hs, hg⟩ := m b k cs;obtain ⟨e, a', w', hq, ha⟩ := hg b k cs hb;exact ⟨e, a', w', hq, .of_steps (.one (fw_calm (hx b (t ++ k))) hs) ha⟩
theorem Gw.nil (h : Q .normal a w) : Gw P ro [] Q a w := fun _ _ _ _ => ⟨.normal, a, w, h, StepsIn.refl _⟩
theorem Gw.skip (h : Gw P ro t Q a w) : Gw P ro (.code .skip :: t) Q a w := .step (fun _ _ => rfl) fun _ _ _ => ⟨t, stepR_skip, h⟩
theorem Gw.inBlock {id : Nat} (h : Gw P ro t Q a w) : Gw P ro (.inBlock id :: t) Q a w := .step (fun _ _ => rfl) fun _ _ _ => ⟨t, stepR_inBlock, h⟩
theorem Gw.seq {x y : Code} (h : Gw P ro (.code x :: .code y :: t) Q a w) : Gw P ro (.code (.seq x y) :: t) Q a w := .step (fun _ _ => rfl) fun _ _ _ => ⟨_, stepR_seq, h⟩
theorem Gw.block {id : Nat} {x : Code} (h : Gw P ro (.code x :: .inBlock id :: t) Q a w) : Gw P ro (.code (.block id x) :: t) Q a w := .step (fun _ _ => rfl) fun _ _ _ => ⟨_, stepR_block, h⟩
theorem Gw.inLoop {x : Code} (h : Gw P ro (.code x :: .inLoop x :: t) Q a w) : Gw P ro (.inLoop x :: t) Q a w := .step (fun _ _ => rfl) fun _ _ _ => ⟨_, stepR_inLoop, h⟩
theorem Gw.loop' {x : Code} (h : Gw P ro (.code x :: .inLoop x :: t) Q a w) : Gw P ro (.code (.loop x) :: t) Q a w := .step (fun _ _ => rfl) fun _ _ _ => ⟨_, stepR_loop, h⟩
theorem Gw.cond {c : Operand} {x y : Code} {b : Bool} (hc : a.eval c = .bool b) (ht : b = true → Gw P ro (.code x :: t) Q a w) (hf : b = false → Gw P ro (.code y :: t) Q a w) : Gw P ro (.code (.cond c x y) :: t) Q a w := by
  cases b
  · exact .step (fun _ _ => rfl) fun _ _ _ => ⟨.code y :: t, stepR_cond hc, hf rfl⟩
  · exact .step (fun _ _ => rfl) fun _ _ _ => ⟨.code x :: t, stepR_cond hc, ht rfl⟩
theorem Gw.code {c : Code} (h : c.wpIn (fw ro) 0 P (fun e a w => e = .normal ∧ Gw P ro t Q a w) a w) : Gw P ro (.code c :: t) Q a w := by
  intro b k cs hb;obtain ⟨e, a1, w1, ⟨rfl, hg⟩, ha⟩ := h b (t ++ k) cs hb trivial (fw_room _ _);obtain ⟨e, a', w', hq, ha'⟩ := hg b k cs hb;exact ⟨e, a', w', hq, .of_steps ha ha'⟩
theorem Gw.wpIn {c : Code} (h : Gw P ro [.code c] Q a w) : c.wpIn (fw ro) 0 P Q a w := fun b k cs hb _ _ => h b k cs hb
theorem Gw.ret (h : Q .ret a w) : Gw P ro (.code .ret :: t) Q a w := fun b k cs hb =>
  ⟨.ret, a, w, h, fun hn => ⟨_, .one (fw_calm rfl) (stepR_ret hn)⟩, fun _ => ⟨t ++ k, .refl _⟩⟩
theorem exitTo_append {id : Nat} {t t' : List Item} (k : List Item) (h : exitTo id t = some t') : exitTo id (t ++ k) = some (t' ++ k) := by
  induction t with
  | nil => cases h
  | cons x l ih =>
    cases x with
    | inBlock id' =>
      simp only [exitTo, List.cons_append] at h ⊢
      split at h
      · rename_i e; cases h; simp [e]
      · rename_i e; simp only [e]; exact ih h
    | _ => simp only [exitTo, List.cons_append] at h ⊢; exact ih h
theorem Gw.exit {id : Nat} {t' : List Item} (he : exitTo id t = some t') (h : Gw P ro t' Q a w) : Gw P ro (.code (.exit id) :: t) Q a w :=
  .step (fun _ _ => rfl) fun _ k _ => ⟨t', stepR_exit (exitTo_append k he), h⟩
theorem Gw.wp {c : Code} (h : Gw P none [.code c] Q a w) : c.wp P Q a w := (wpIn_wide (n := 0)).1 (show c.wpIn (fw none) 0 P Q a w from Gw.wpIn h)
end
structure Fm where
  sz : Nat
  ro : Option Nat
  df : List Deferred
def Fm.of (n : Nat) : Fm := ⟨n, none, []⟩
instance (n : Nat) : OfNat Fm n := ⟨Fm.of n⟩
section
variable (P : Program) (c : Ctx) (sz : Fm) (Q : Exit → Act → World → Prop)
def TC (todo : List Item) (s : List (Nat × AV)) (V : List NEnt) : Prop :=
  ∀ env tm W O R, Fr env sz.sz s tm → St c env V W O R → Gw P sz.ro todo Q ⟨tm, sz.df⟩ W
def TL (ops : Array Oper) (l : List Oper) (t : List Item) (s : List (Nat × AV)) (V : List NEnt) : Prop :=
  ∀ env tm W O R, Fr env sz.sz s tm → St c env V W O R → wpListIn (fw sz.ro) 0 P ops (fun e a w => e = .normal ∧ Gw P sz.ro t Q a w) l ⟨tm, sz.df⟩ W
end
section
variable {P : Program} {c : Ctx} {sz : Fm} {Q : Exit → Act → World → Prop} {t : List Item} {s : List (Nat × AV)} {V : List NEnt}
theorem TC.skip (h : TC P c sz Q t s V) : TC P c sz Q (.code .skip :: t) s V := fun e tm W O R hf hs => Gw.skip (h e tm W O R hf hs)
theorem TC.inBlock {id : Nat} (h : TC P c sz Q t s V) : TC P c sz Q (.inBlock id :: t) s V := fun e tm W O R hf hs => Gw.inBlock (h e tm W O R hf hs)
theorem TC.seq {x y : Code} (h : TC P c sz Q (.code x :: .code y :: t) s V) : TC P c sz Q (.code (.seq x y) :: t) s V := fun e tm W O R hf hs => Gw.seq (h e tm W O R hf hs)
theorem TC.block {id : Nat} {x : Code} (h : TC P c sz Q (.code x :: .inBlock id :: t) s V) : TC P c sz Q (.code (.block id x) :: t) s V := fun e tm W O R hf hs => Gw.block (h e tm W O R hf hs)
theorem TC.loop {x : Code} (h : TC P c sz Q (.code x :: .inLoop x :: t) s V) : TC P c sz Q (.code (.loop x) :: t) s V := fun e tm W O R hf hs => Gw.loop' (h e tm W O R hf hs)
theorem TC.inLoop {x : Code} (h : TC P c sz Q (.code x :: .inLoop x :: t) s V) : TC P c sz Q (.inLoop x :: t) s V := fun e tm W O R hf hs => Gw.inLoop (h e tm W O R hf hs)
theorem TC.cond {o : Operand} {x y : Code} {b : Bool} (hc : rho s o = some (.val (.bool b))) (ht : b = true → TC P c sz Q (.code x :: t) s V) (hf : b = false → TC P c sz Q (.code y :: t) s V) :
    TC P c sz Q (.code (.cond o x y) :: t) s V :=
  fun e tm W O R hr hs => Gw.cond (b := b) (rho_eval hr hc) (fun hb => ht hb e tm W O R hr hs) (fun hb => hf hb e tm W O R hr hs)
theorem TC.exit {id : Nat} {t' : List Item} (he : exitTo id t = some t') (h : TC P c sz Q t' s V) : TC P c sz Q (.code (.exit id) :: t) s V := fun e tm W O R hf hs => Gw.exit he (h e tm W O R hf hs)
theorem TC.region {id : Nat} {l : List Oper} (h : TL P c sz Q l.toArray l t s V) : TC P c sz Q (.code (.region id l.toArray false) :: t) s V :=
  fun e tm W O R hf hs => Gw.code (wpIn_region_lit (h e tm W O R hf hs))
theorem TL.nil {ops : Array Oper} (h : TC P c sz Q t s V) : TL P c sz Q ops [] t s V := fun e tm W O R hf hs => ⟨rfl, h e tm W O R hf hs⟩
end
theorem oneOf_one (v : Value) : (oneOf v).oneCell' = true := by cases v <;> rfl
theorem blockOff_one (v : Value) (o : Nat) : (blockOff v o).oneCell' = true := by unfold blockOff; split <;> rfl
theorem cellAt_one (v : Value) (o : Nat) : (cellAt v o).oneCell' = true := by unfold cellAt; split <;> rfl
def AV.one : AV → Bool
  | .val v => v.oneCell'
  | .agg _ => false
  | .tup _ => false
  | _ => true
theorem AV.den_one {a : AV} (h : a.one = true) (e : Env) : (a.den e).oneCell' = true := by
  cases a <;> first | exact h | exact oneOf_one _ | exact blockOff_one _ _ | exact cellAt_one _ _ | rfl | cases h
theorem cells_one {v : Value} (h : v.oneCell' = true) : v.cells = #[v] := by cases v <;> first | rfl | cases h
def AV.cs : AV → List AV
  | .agg cs => cs
  | .tup cs => [.tup cs]
  | a => [a]
def AV.flat : AV → Bool
  | .agg cs => cs.all AV.one
  | a => a.one
theorem AV.den_cells {a : AV} (h : a.flat = true) (e : Env) : (a.den e).cells = (AV.denL e a.cs).toArray := by
  cases a with
  | agg cs => rfl
  | tup cs => cases h
  | val v => rw [cells_one (AV.den_one (a := .val v) h e)]; rfl
  | ref v => rw [cells_one (AV.den_one (a := .ref v) h e)]; rfl
  | ptr n o => rw [cells_one (AV.den_one (a := .ptr n o) h e)]; rfl
  | cell n o => rw [cells_one (AV.den_one (a := .cell n o) h e)]; rfl
  | fn f x y => rw [cells_one (AV.den_one (a := .fn f x y) h e)]; rfl
theorem denL_length (e : Env) (l : List AV) : (AV.denL e l).length = l.length := by rw [AV.denL_map]; simp
theorem denL_get {e : Env} {l : List AV} {i : Nat} {a : AV} (h : l[i]? = some a) : (AV.denL e l)[i]? = some (a.den e) := by rw [AV.denL_map]; simp [h]
theorem denL_one {e : Env} {l : List AV} (h : l.all AV.one = true) : ∀ v ∈ AV.denL e l, v.oneCell' = true := by
  rw [AV.denL_map];intro v hv;obtain ⟨a, ha, rfl⟩ := List.mem_map.1 hv;exact AV.den_one (List.all_eq_true.1 h a ha) e
theorem cs_all_one {a : AV} (h : a.flat = true) : a.cs.all AV.one = true := by
  cases a <;> first | exact h | (simp only [AV.cs, List.all_cons, List.all_nil, Bool.and_true]; exact h) | cases h
theorem denL_append (e : Env) (l m : List AV) : AV.denL e (l ++ m) = AV.denL e l ++ AV.denL e m := by simp [AV.denL_map]
theorem denL_take (e : Env) (l : List AV) (k : Nat) : AV.denL e (l.take k) = (AV.denL e l).take k := by simp [AV.denL_map]
theorem denL_drop (e : Env) (l : List AV) (k : Nat) : AV.denL e (l.drop k) = (AV.denL e l).drop k := by simp [AV.denL_map]
def Got (c : Ctx) (env : Env) (v : AV) (news : List NEnt) (u : Value) (W' : World) : Prop :=
  ∃ env' O' R', (∀ n, (∀ x ∈ news, x.name ≠ n) → env' n = env n) ∧ u = v.den env' ∧ St c env' news W' O' R'
def OpSpec (P : Program) (o : Oper) (ρ : Operand → Option AV) (need : List NEnt) (v : AV) (news : List NEnt) : Prop :=
  ∀ (ev : Operand → Value) (env : Env) (W : World) (O : Nat → Nat → Prop) (R : Nat → Prop),
    (∀ x a, ρ x = some a → ev x = a.den env) → (∀ x ∈ need, x.holds env W (O x.name) R) → (∀ x ∈ need, ∀ b, O x.name b → b < W.heap.size) → (∀ b, R b → b < W.heap.size) →
    Does P ((execOp ev o).run P W) (Got ⟨W, fun _ => False, R⟩ env v news)
theorem St.refl0 (W : World) (M R : Nat → Prop) (env : Env) (hR : ∀ b, R b → b < W.heap.size) : St ⟨W, M, R⟩ env [] W (fun _ _ => False) R :=
  ⟨Keep.refl _ _, by simp, by simp, by simp, fun b h => ⟨hR b h, .inr (.inl h)⟩, fun _ h => h, by simp⟩
theorem OpSpec.pure {P : Program} {o : Oper} {ρ : Operand → Option AV} {need : List NEnt} {v : AV}
    (h : ∀ (ev : Operand → Value) (env : Env) (W : World) (O : Nat → Nat → Prop) (R : Nat → Prop), (∀ x a, ρ x = some a → ev x = a.den env) → (∀ x ∈ need, x.holds env W (O x.name) R) →
      (execOp ev o).run P W = .ok (.value (v.den env)) W) : OpSpec P o ρ need v [] := by
  intro ev env W O R he hn hO hR;rw [h ev env W O R he hn];exact ⟨env, _, R, fun _ _ => rfl, rfl, St.refl0 W _ R env hR⟩
def freshN (news : List NEnt) (s : List (Nat × AV)) (V : List NEnt) : Bool := news.all fun x => !hasS x.name s && !hasV x.name V
theorem St.next {c : Ctx} {env env' : Env} {V news : List NEnt} {W W' : World} {O O' : Nat → Nat → Prop} {R R' : Nat → Prop} (h : St c env V W O R)
    (hg : St ⟨W, fun _ => False, R⟩ env' news W' O' R') (he : ∀ n, (∀ x ∈ news, x.name ≠ n) → env' n = env n) (hf : ∀ x ∈ news, hasV x.name V = false) :
    ∃ O2, St c env' (news ++ V) W' O2 R' ∧ (∀ n, hasV n V = true → env' n = env n) := by
  have hnv : ∀ x ∈ news, ∀ y ∈ V, x.name ≠ y.name := by
    intro x hx y hy e;have := hf x hx;rw [mem_has hy (by rw [e]; exact NEnt.has_name y)] at this;cases this
  have hev : ∀ n, hasV n V = true → env' n = env n := fun n hn => he n fun x hx e => by subst e; rw [hf x hx] at hn; cases hn
  classical
  refine ⟨fun n b => if (∃ x ∈ news, x.name = n) then O' n b else O n b, ⟨h.keep.trans hg.keep (fun _ _ x => x.elim), ?_, ?_, ?_, ?_, ?_, ?_⟩, hev⟩
  · intro x hx;rcases List.mem_append.1 hx with hx | hx
    · have : ∃ y ∈ news, y.name = x.name := ⟨x, hx, rfl⟩
      simpa only [this, if_true] using hg.holds x hx
    · have hno : ¬ ∃ y ∈ news, y.name = x.name := fun ⟨y, hy, e⟩ => hnv y hy x hx e
      simp only [hno, if_false];refine NEnt.holds_congr (fun n hn => (hev n (mem_has hx hn)).symm) (NEnt.holds_keep (fun b hb => ?_) (fun b hb => ?_) (h.holds x hx))
      · exact hg.keep.block b (h.own x hx b hb).1 (fun x => x)
      · exact ⟨hg.r0 b hb, hg.keep.block b (h.ro b hb).1 (fun x => x)⟩
  · intro x hx b hb;rcases List.mem_append.1 hx with hx | hx
    · have : ∃ y ∈ news, y.name = x.name := ⟨x, hx, rfl⟩;simp only [this, if_true] at hb;obtain ⟨h1, h2, h3⟩ := hg.own x hx b hb;refine ⟨h1, .inl ?_, h3⟩;rcases h2 with h2 | h2
      · exact Nat.le_trans h.keep.size h2
      · exact h2.elim
    · have hno : ¬ ∃ y ∈ news, y.name = x.name := fun ⟨y, hy, e⟩ => hnv y hy x hx e
      simp only [hno, if_false] at hb;obtain ⟨h1, h2, h3⟩ := h.own x hx b hb;refine ⟨Nat.lt_of_lt_of_le h1 hg.keep.size, h2, fun hr => ?_⟩;rcases (hg.ro b hr).2 with h4 | h4 | h4
      · have : W.heap.size ≤ b := h4; omega
      · exact h3 h4
      · exact h4
  · intro x hx y hy hne b ⟨h1, h2⟩
    by_cases ex : ∃ z ∈ news, z.name = x.name <;> by_cases ey : ∃ z ∈ news, z.name = y.name <;> simp only [ex, ey, if_true, if_false] at h1 h2
    · obtain ⟨x', hx', e1⟩ := ex; obtain ⟨y', hy', e2⟩ := ey;rw [← e1] at h1; rw [← e2] at h2;exact hg.apart x' hx' y' hy' (by rw [e1, e2]; exact hne) b ⟨h1, h2⟩
    · obtain ⟨x', hx', e1⟩ := ex;have hyV : y ∈ V := (List.mem_append.1 hy).resolve_left fun h => ey ⟨y, h, rfl⟩
      rw [← e1] at h1;have := (hg.own x' hx' b h1).2.1;have h3 := (h.own y hyV b h2).1;rcases this with h4 | h4
      · have : W.heap.size ≤ b := h4; omega
      · exact h4
    · obtain ⟨y', hy', e2⟩ := ey;have hxV : x ∈ V := (List.mem_append.1 hx).resolve_left fun h => ex ⟨x, h, rfl⟩
      rw [← e2] at h2;have := (hg.own y' hy' b h2).2.1;have h3 := (h.own x hxV b h1).1;rcases this with h4 | h4
      · have : W.heap.size ≤ b := h4; omega
      · exact h4
    · have hxV : x ∈ V := (List.mem_append.1 hx).resolve_left fun h => ex ⟨x, h, rfl⟩
      have hyV : y ∈ V := (List.mem_append.1 hy).resolve_left fun h => ey ⟨y, h, rfl⟩
      exact h.apart x hxV y hyV hne b ⟨h1, h2⟩
  · intro b hb;obtain ⟨h1, h2⟩ := hg.ro b hb;refine ⟨h1, ?_⟩;rcases h2 with h2 | h2 | h2
    · exact .inl (Nat.le_trans h.keep.size h2)
    · exact (h.ro b h2).2
    · exact h2.elim
  · intro b hb;exact hg.r0 b (h.r0 b hb)
  · rw [List.map_append, List.nodup_append];refine ⟨hg.names, h.names, fun a ha b hb e => ?_⟩;obtain ⟨x, hx, rfl⟩ := List.mem_map.1 ha;obtain ⟨y, hy, rfl⟩ := List.mem_map.1 hb;exact hnv x hx y hy e
def Wanted (ops : Array Oper) (s : List (Nat × AV)) (o : Oper) : Prop :=
  match o.guard with
  | none => True
  | some (j, want) => ∃ d, (ops[j]?).bind (·.dst) = some d ∧ look s d = some (.val (.bool want))
def Unwanted (ops : Array Oper) (s : List (Nat × AV)) (o : Oper) : Prop :=
  match o.guard with
  | none => False
  | some (j, want) => ∃ d, (ops[j]?).bind (·.dst) = some d ∧ (look s d = some (.val (.bool (!want))) ∨ look s d = some (.val undef))
theorem wanted_of {ops : Array Oper} {s : List (Nat × AV)} {o : Oper} {env : Env} {sz : Nat} {tm : Array Value} (hf : Fr env sz s tm) (h : Wanted ops s o) : Region.wanted o (yielded ops tm) = true := by
  unfold Wanted at h; unfold Region.wanted
  split at h <;> rename_i hg <;> simp only [hg]
  obtain ⟨d, h1, h2⟩ := h;have := hf.2 d _ h2;simp [yielded, h1, this, AV.den]
theorem unwanted_of {ops : Array Oper} {s : List (Nat × AV)} {o : Oper} {env : Env} {sz : Nat} {tm : Array Value} (hf : Fr env sz s tm) (h : Unwanted ops s o) : Region.wanted o (yielded ops tm) = false := by
  unfold Unwanted at h; unfold Region.wanted
  split at h <;> rename_i hg <;> simp only [hg]
  · exact h.elim
  · obtain ⟨d, h1, h2 | h2⟩ := h
    · have := hf.2 d _ h2;simp [yielded, h1, this, AV.den]
    · have := hf.2 d _ h2;simp [yielded, h1, this, AV.den, undef]
section
variable {P : Program} {c : Ctx} {sz : Fm} {Q : Exit → Act → World → Prop} {t : List Item} {s : List (Nat × AV)} {V : List NEnt} {ops : Array Oper} {rest : List Oper} {o : Oper}
theorem TL.op (need : List NEnt) {v : AV} {news : List NEnt} {d : Nat} (hs : OpSpec P o (rho s) need v news) (hd : o.dst = some d) (hw : Wanted ops s o) (hlt : d < sz.sz) (hn : ∀ x ∈ need, x ∈ V) (hf : freshN news s V = true)
    (k : TL P c sz Q ops rest t ((d, v) :: s) (news ++ V)) : TL P c sz Q ops (o :: rest) t s V := by
  intro env tm W O R hfr hst;have hf' : ∀ x ∈ news, hasS x.name s = false ∧ hasV x.name V = false := by simpa [freshN] using hf
  unfold wpListIn;rw [if_pos (wanted_of hfr hw)];refine ((hs _ env W O R (fun x a hx => rho_eval hfr hx) (fun x hx => hst.holds x (hn x hx)) (fun x hx b hb => (hst.own x (hn x hx) b hb).1) (fun b hb => (hst.ro b hb).1)).inn ?_)
  rintro u W' ⟨env', O', R', he, rfl, hg⟩
  obtain ⟨O2, h2, hev⟩ := hst.next hg he (fun x hx => (hf' x hx).2);have hfr' : Fr env' sz.sz s tm := hfr.congr fun n hn => (he n fun x hx e => by subst e; rw [(hf' x hx).1] at hn; cases hn).symm
  have := k env' _ W' O2 R' (hfr'.put hlt) h2;rw [hd];exact this
theorem TL.skipG {d : Nat} (hd : o.dst = some d) (hw : Unwanted ops s o) (hlt : d < sz.sz) (k : TL P c sz Q ops rest t ((d, .val undef) :: s) V) : TL P c sz Q ops (o :: rest) t s V := by
  intro env tm W O R hfr hst;unfold wpListIn;rw [if_neg (by rw [unwanted_of hfr hw]; simp)];have := k env _ W O R (hfr.put hlt) hst;rw [hd];exact ⟨fun _ _ => trivial, this⟩
end
def fits (k : IntKind) (z : Int) : Bool := decide (k.wrap z = z)
def in64 (z : Int) : Bool := decide (-9223372036854775808 ≤ z) && decide (z ≤ 9223372036854775807)
theorem in64_iff {z : Int} : in64 z = true ↔ -9223372036854775808 ≤ z ∧ z ≤ 9223372036854775807 := by simp [in64]
theorem wrap_in64 {z : Int} (h : in64 z = true) : IntKind.i64.wrap z = z := IntWalk.i64_in z (in64_iff.1 h)
def inK : IntKind → Int → Bool
  | .i64, z => in64 z
  | k, z => fits k z
theorem wrap_inK {k : IntKind} {z : Int} (h : inK k z = true) : k.wrap z = z := by
  cases k <;> first | exact wrap_in64 h | exact of_decide_eq_true h
section
variable {P : Program} {o : Oper} {ρ : Operand → Option AV}
theorem sp_move {x : Operand} {a : AV} (ho : o.op = .move x) (hx : ρ x = some a) : OpSpec P o ρ [] a [] :=
  .pure fun ev env W O R he _ => by simp [execOp, ho, he x a hx]
theorem sp_assign {x : Operand} {a : AV} (ho : o.op = .assign x) (hx : ρ x = some a) : OpSpec P o ρ [] a [] :=
  .pure fun ev env W O R he _ => by simp [execOp, ho, he x a hx]
theorem sp_pickT {c x y : Operand} {a : AV} (ho : o.op = .pick c x y) (hc : ρ c = some (.val (.bool true))) (hx : ρ x = some a) : OpSpec P o ρ [] a [] :=
  .pure fun ev env W O R he _ => by simp [execOp, ho, he x a hx, he c _ hc, AV.den, asBool]
theorem sp_pickF {c x y : Operand} {a : AV} (ho : o.op = .pick c x y) (hc : ρ c = some (.val (.bool false))) (hx : ρ y = some a) : OpSpec P o ρ [] a [] :=
  .pure fun ev env W O R he _ => by simp [execOp, ho, he y a hx, he c _ hc, AV.den, asBool]
theorem sp_add {x y : Operand} {T U : TypeId} {k : IntKind} {m n : Int} (ho : o.op = .binOp .add T x y U) (hx : ρ x = some (.val (.int k m))) (hy : ρ y = some (.val (.int k n))) (hz : inK k (m + n) = true) :
    OpSpec P o ρ [] (.val (.int k (m + n))) [] :=
  .pure fun ev env W O R he _ => by simp [execOp, ho, he x _ hx, he y _ hy, AV.den, eqGuard, binOp, Op.intArith, wrap_inK hz]
theorem sp_sub {x y : Operand} {T U : TypeId} {k : IntKind} {m n : Int} (ho : o.op = .binOp .sub T x y U) (hx : ρ x = some (.val (.int k m))) (hy : ρ y = some (.val (.int k n))) (hz : inK k (m - n) = true) :
    OpSpec P o ρ [] (.val (.int k (m - n))) [] :=
  .pure fun ev env W O R he _ => by simp [execOp, ho, he x _ hx, he y _ hy, AV.den, eqGuard, binOp, Op.intArith, wrap_inK hz]
theorem sp_mul {x y : Operand} {T U : TypeId} {k : IntKind} {m n : Int} (ho : o.op = .binOp .mul T x y U) (hx : ρ x = some (.val (.int k m))) (hy : ρ y = some (.val (.int k n))) (hz : inK k (m * n) = true) :
    OpSpec P o ρ [] (.val (.int k (m * n))) [] :=
  .pure fun ev env W O R he _ => by simp [execOp, ho, he x _ hx, he y _ hy, AV.den, eqGuard, binOp, Op.intArith, wrap_inK hz]
theorem sp_quo {x y : Operand} {T U : TypeId} {k : IntKind} {m n : Int} (ho : o.op = .binOp .quo T x y U) (hx : ρ x = some (.val (.int k m))) (hy : ρ y = some (.val (.int k n))) (h0 : (n != 0) = true) (hz : inK k (m.tdiv n) = true) :
    OpSpec P o ρ [] (.val (.int k (m.tdiv n))) [] :=
  .pure fun ev env W O R he _ => by
    have h0' : n ≠ 0 := by simpa using h0
    simp [execOp, ho, he x _ hx, he y _ hy, AV.den, eqGuard, binOp, Op.intDiv, h0', wrap_inK hz]
theorem sp_rem {x y : Operand} {T U : TypeId} {k : IntKind} {m n : Int} (ho : o.op = .binOp .rem T x y U) (hx : ρ x = some (.val (.int k m))) (hy : ρ y = some (.val (.int k n))) (h0 : (n != 0) = true) :
    OpSpec P o ρ [] (.val (.int k (m.tmod n))) [] :=
  .pure fun ev env W O R he _ => by
    have h0' : n ≠ 0 := by simpa using h0
    simp [execOp, ho, he x _ hx, he y _ hy, AV.den, eqGuard, binOp, Op.intDiv, h0']
theorem sp_lss {x y : Operand} {T U : TypeId} {k : IntKind} {m n : Int} (ho : o.op = .binOp .lss T x y U) (hx : ρ x = some (.val (.int k m))) (hy : ρ y = some (.val (.int k n))) :
    OpSpec P o ρ [] (.val (.bool (decide (m < n)))) [] :=
  .pure fun ev env W O R he _ => by simp [execOp, ho, he x _ hx, he y _ hy, AV.den, eqGuard, binOp, Op.intCmp]
theorem sp_leq {x y : Operand} {T U : TypeId} {k : IntKind} {m n : Int} (ho : o.op = .binOp .leq T x y U) (hx : ρ x = some (.val (.int k m))) (hy : ρ y = some (.val (.int k n))) :
    OpSpec P o ρ [] (.val (.bool (decide (m ≤ n)))) [] :=
  .pure fun ev env W O R he _ => by simp [execOp, ho, he x _ hx, he y _ hy, AV.den, eqGuard, binOp, Op.intCmp]
theorem sp_gtr {x y : Operand} {T U : TypeId} {k : IntKind} {m n : Int} (ho : o.op = .binOp .gtr T x y U) (hx : ρ x = some (.val (.int k m))) (hy : ρ y = some (.val (.int k n))) :
    OpSpec P o ρ [] (.val (.bool (decide (n < m)))) [] :=
  .pure fun ev env W O R he _ => by simp [execOp, ho, he x _ hx, he y _ hy, AV.den, eqGuard, binOp, Op.intCmp]
theorem sp_geq {x y : Operand} {T U : TypeId} {k : IntKind} {m n : Int} (ho : o.op = .binOp .geq T x y U) (hx : ρ x = some (.val (.int k m))) (hy : ρ y = some (.val (.int k n))) :
    OpSpec P o ρ [] (.val (.bool (decide (n ≤ m)))) [] :=
  .pure fun ev env W O R he _ => by simp [execOp, ho, he x _ hx, he y _ hy, AV.den, eqGuard, binOp, Op.intCmp]
theorem sp_eql {x y : Operand} {T U : TypeId} {k : IntKind} {m n : Int} (ho : o.op = .binOp .eql T x y U) (hx : ρ x = some (.val (.int k m))) (hy : ρ y = some (.val (.int k n))) :
    OpSpec P o ρ [] (.val (.bool (m == n))) [] :=
  .pure fun ev env W O R he _ => by simp [execOp, ho, he x _ hx, he y _ hy, AV.den, eqGuard, binOp, Op.intCmp]
theorem sp_neq {x y : Operand} {T U : TypeId} {k : IntKind} {m n : Int} (ho : o.op = .binOp .neq T x y U) (hx : ρ x = some (.val (.int k m))) (hy : ρ y = some (.val (.int k n))) :
    OpSpec P o ρ [] (.val (.bool (m != n))) [] :=
  .pure fun ev env W O R he _ => by simp [execOp, ho, he x _ hx, he y _ hy, AV.den, eqGuard, binOp, Op.intCmp]
def EqT (P : Program) (T : TypeId) (xs ys : List Value) (b : Bool) : Prop := P.eqGuardType P.depth T = false ∧ ∀ w, (Op.equalIn 10000 T (.agg xs.toArray) (.agg ys.toArray)).run P w = .ok b w
theorem sp_eqlS {x y : Operand} {T U : TypeId} {xs ys : List AV} {us vs : List Value} {b : Bool} (ho : o.op = .binOp .eql T x y U) (hx : ρ x = some (.agg xs)) (hy : ρ y = some (.agg ys)) (hu : xs = us.map .val) (hv : ys = vs.map .val) (hq : EqT P T us vs b) :
    OpSpec P o ρ [] (.val (.bool b)) [] :=
  .pure fun ev env W O R he _ => by
    have d : ∀ l : List Value, AV.denL env (l.map .val) = l := fun l => by rw [AV.denL_map, List.map_map]; exact List.map_id'' (fun _ => rfl) l
    subst hu; subst hv;simp only [execOp, ho, he x _ hx, he y _ hy, AV.den, d, Sem.run_bind, run_eqGuard_agg W .eql T x y _ _ hq.1, Result.andThen_ok, run_eql_struct, hq.2, Sem.run_pure]
theorem sp_neqS {x y : Operand} {T U : TypeId} {xs ys : List AV} {us vs : List Value} {b : Bool} (ho : o.op = .binOp .neq T x y U) (hx : ρ x = some (.agg xs)) (hy : ρ y = some (.agg ys)) (hu : xs = us.map .val) (hv : ys = vs.map .val) (hq : EqT P T us vs b) :
    OpSpec P o ρ [] (.val (.bool (!b))) [] :=
  .pure fun ev env W O R he _ => by
    have d : ∀ l : List Value, AV.denL env (l.map .val) = l := fun l => by rw [AV.denL_map, List.map_map]; exact List.map_id'' (fun _ => rfl) l
    subst hu; subst hv;simp only [execOp, ho, he x _ hx, he y _ hy, AV.den, d, Sem.run_bind, run_eqGuard_agg W .neq T x y _ _ hq.1, Result.andThen_ok, run_neq_struct, hq.2, Sem.run_pure]
theorem sp_not {x : Operand} {T : TypeId} {m : Bool} (ho : o.op = .unOp .not T x) (hx : ρ x = some (.val (.bool m))) : OpSpec P o ρ [] (.val (.bool (!m))) [] :=
  .pure fun ev env W O R he _ => by simp [execOp, ho, he x _ hx, AV.den, Op.unary]
theorem sp_neg {x : Operand} {T : TypeId} {k : IntKind} {m : Int} (ho : o.op = .unOp .neg T x) (hx : ρ x = some (.val (.int k m))) (hz : inK k (0 - m) = true) : OpSpec P o ρ [] (.val (.int k (0 - m))) [] :=
  .pure fun ev env W O R he _ => by simp [execOp, ho, he x _ hx, AV.den, Op.unary, Op.intArith, -Int.zero_sub, wrap_inK hz]
theorem sp_conv {x : Operand} {S T : TypeId} {k k' : IntKind} {m : Int} {dS : TypeDesc} (ho : o.op = .convert S T x) (hS : P.underlying S = some dS) (hT : P.underlying T = some (.int k')) (hx : ρ x = some (.val (.int k m))) (hz : inK k' m = true) :
    OpSpec P o ρ [] (.val (.int k' m)) [] :=
  .pure fun ev env W O R he _ => by simp [execOp, ho, he x _ hx, AV.den, convert, run_underlying hS, run_underlying hT, Conv.intToInt, wrap_inK hz]
theorem sp_extract {x : Operand} {i : Nat} {cs : List AV} {a : AV} (ho : o.op = .extract x i) (hx : ρ x = some (.tup cs)) (hi : cs[i]? = some a) : OpSpec P o ρ [] a [] :=
  .pure fun ev env W O R he _ => by simp [execOp, ho, he x _ hx, AV.den, Instr.extract, denL_get hi]
theorem sp_makeFunc {f : FuncId} {fi ca : List Operand} {fa cb : List AV} (ho : o.op = .makeFunc (.func f) fi.toArray ca.toArray) (hf : fi.map ρ = fa.map some) (hc : ca.map ρ = cb.map some) :
    OpSpec P o ρ [] (.fn f fa cb) [] :=
  .pure fun ev env W O R he _ => by
    have key : ∀ (l : List Operand) (m : List AV), l.map ρ = m.map some → l.map ev = AV.denL env m := by
      intro l
      induction l with
      | nil => intro m h; cases m <;> first | rfl | cases h
      | cons x l ih =>
        intro m h
        cases m with
        | nil => cases h
        | cons b m =>
          simp only [List.map_cons, List.cons.injEq] at h;simp only [List.map_cons, AV.denL, he x b h.1, ih m h.2]
    simp [execOp, ho, AV.den, Instr.makeFunc, key _ _ hf, key _ _ hc]
end
def fillA (place : Nat → Option (Nat × Nat)) (cells : List AV) : List (Nat × AV) → Option (List AV)
  | [] => some cells
  | (i, a) :: rest =>
    match place i with
    | none => none
    | some (off, size) => if a.cs.length ≠ size ∨ off + a.cs.length > cells.length then none else fillA place (cells.take off ++ a.cs ++ cells.drop (off + a.cs.length)) rest
theorem fold_splice : ∀ (vs : List Value) (off j : Nat) (cur : Array Value), off + j + vs.length ≤ cur.size →
    ((vs.zipIdx j).foldl (fun cs (p : Value × Nat) => cs.setIfInBounds (off + p.2) p.1) cur).toList = cur.toList.take (off + j) ++ vs ++ cur.toList.drop (off + j + vs.length) := by
  intro vs
  induction vs with
  | nil => intro off j cur h; simp
  | cons v vs ih =>
    intro off j cur h;simp only [List.zipIdx_cons, List.foldl_cons];have hi : off + j < cur.size := by simp at h; omega
    rw [ih off (j + 1) _ (by simp at h ⊢; omega)];have e := list_seg_step cur.toList (off + j) v vs (by simp at h ⊢; omega)
    simpa [Array.toList_setIfInBounds, Nat.add_assoc] using e
theorem fill_den (env : Env) (place : Nat → Option (Nat × Nat)) : ∀ (parts : List (Nat × AV)) (cells : List AV), (∀ p ∈ parts, p.2.flat = true) →
    Instr.fill place (AV.denL env cells).toArray (parts.map fun p => (p.1, p.2.den env)) = (fillA place cells parts).map fun cs => (AV.denL env cs).toArray := by
  intro parts
  induction parts with
  | nil => intro cells _; rfl
  | cons p rest ih =>
    intro cells hp;obtain ⟨i, a⟩ := p;have ha : a.flat = true := hp (i, a) (by simp);simp only [List.map_cons, Instr.fill, fillA]
    cases place i with
    | none => rfl
    | some q =>
      obtain ⟨off, size⟩ := q;have hc : (a.den env).cells = (AV.denL env a.cs).toArray := AV.den_cells ha env;have hsz : (a.den env).cells.size = a.cs.length := by rw [hc]; simp [denL_length]
      simp only [hsz, List.size_toArray, denL_length]
      by_cases h : a.cs.length ≠ size ∨ off + a.cs.length > cells.length
      · have h' : (decide (a.cs.length ≠ size) || decide (off + a.cs.length > cells.length)) = true := by simpa using h
        simp only [h, if_true]
        first | rfl | simp_all
      · rw [if_neg (by simpa using h), if_neg h];rw [← ih _ (fun p hp' => hp p (by simp [hp']))]
        congr 1
        apply Array.ext';have hb : off + 0 + (AV.denL env a.cs).length ≤ (AV.denL env cells).toArray.size := by simp [denL_length]; omega
        have := fold_splice (AV.denL env a.cs) off 0 (AV.denL env cells).toArray hb;rw [hc];rw [show (AV.denL env a.cs).toArray.zipIdx = ((AV.denL env a.cs).zipIdx).toArray from by simp];rw [List.foldl_toArray]
        first
          | (simpa [denL_append, denL_take, denL_drop, denL_length] using this)
          | (simp [denL_append, denL_take, denL_drop, denL_length] at this ⊢; exact this)
theorem St.fresh {W W' : World} {R : Nat → Prop} {env : Env} {x : NEnt} {O : Nat → Prop} (hk : Keep (fun _ => False) W W') (hR : ∀ b, R b → b < W.heap.size)
    (hx : x.holds env W' O R) (hO : ∀ b, O b → W.heap.size ≤ b ∧ b < W'.heap.size) : St ⟨W, fun _ => False, R⟩ env [x] W' (fun _ => O) R :=
  ⟨hk, fun y hy => by rw [List.mem_singleton] at hy; subst hy; exact hx, fun y _ b hb => ⟨(hO b hb).2, .inl (hO b hb).1, fun hr => by have := hR b hr; have := (hO b hb).1; omega⟩,
    fun y hy z hz hne => by rw [List.mem_singleton] at hy hz; subst hy; subst hz; exact absurd rfl hne, fun b hb => ⟨Nat.lt_of_lt_of_le (hR b hb) hk.size, .inr (.inl hb)⟩, fun _ h => h, by simp⟩
theorem keep_alloc (W : World) (o : Obj) : Keep (fun _ => False) W (W.alloc o) := Keep.of_below ((Below.refl _ W).alloc (Nat.le_refl _) o)
def setEnv (env : Env) (n : Nat) (v : Value) : Env := fun m => if m = n then v else env m
theorem setEnv_same (env : Env) (n : Nat) (v : Value) : setEnv env n v n = v := by simp [setEnv]
theorem setEnv_other {env : Env} {n m : Nat} {v : Value} (h : n ≠ m) : setEnv env n v m = env m := by simp [setEnv, Ne.symm h]
theorem denL_set {env : Env} {n : Nat} {v : Value} {l : List AV} (h : AV.hasL n l = false) : AV.denL (setEnv env n v) l = AV.denL env l :=
  AV.denL_congr l fun m hm => setEnv_other fun e => by subst e; rw [h] at hm; cases hm
theorem got_blk {W : World} {R : Nat → Prop} (hR : ∀ b, R b → b < W.heap.size) (env : Env) (n : Nat) (cells : List AV) (T : TypeId) (hn : AV.hasL n cells = false) :
    Got ⟨W, fun _ => False, R⟩ env (.ptr n 0) [.blk n cells T] (.pointer (some ⟨W.heap.size, 0, none⟩)) (W.alloc (.cells (AV.denL env cells).toArray T)) := by
  refine ⟨setEnv env n (.pointer (some ⟨W.heap.size, 0, none⟩)), fun _ b => b = W.heap.size, R, fun m hm => setEnv_other (hm (.blk n cells T) (by simp)), by simp [AV.den, setEnv_same, blockOff], ?_⟩;refine St.fresh (keep_alloc W _) hR ?_ (fun b hb => by subst hb; simp);refine ⟨W.heap.size, setEnv_same _ _ _, rfl, ?_⟩;rw [denL_set hn];exact heap_alloc_new W _
section
variable {P : Program} {o : Oper} {ρ : Operand → Option AV}
theorem sp_alloc {T : TypeId} {z : Value} (n : Nat) {zs : List Value} (ho : o.op = .alloc T) (hz : ∀ w, (zeroValue T).run P w = .ok z w) (hc : z.cells.toList = zs) : OpSpec P o ρ [] (.ptr n 0) [.blk n (zs.map .val) T] := by
  intro ev env W O R he _ _ hR;have d : AV.denL env (zs.map .val) = zs := by rw [AV.denL_map, List.map_map]; exact List.map_id'' (fun _ => rfl) zs
  have nh : AV.hasL n (zs.map .val) = false := by
    clear hc d
    induction zs with
    | nil => rfl
    | cons v l ih => simp [AV.hasL, AV.has, ih]
  have g := got_blk hR env n (zs.map .val) T nh;rw [d] at g;have : (execOp ev o).run P W = .ok (.value (.pointer (some ⟨W.heap.size, 0, none⟩))) (W.alloc (.cells zs.toArray T)) := by
    simp [execOp, ho, Instr.alloc, hz, newVar, newRow, ← hc]
  rw [this];exact g
theorem sp_box {T : TypeId} {x : Operand} {a : AV} (n : Nat) {cells : List AV} (ho : o.op = .box T x) (hx : ρ x = some a) (hfl : a.flat = true) (hcs : a.cs = cells) (hn : AV.hasL n cells = false) : OpSpec P o ρ [] (.ptr n 0) [.blk n cells T] := by
  intro ev env W O R he _ _ hR;subst hcs;have g := got_blk hR env n a.cs T hn;have : (execOp ev o).run P W = .ok (.value (.pointer (some ⟨W.heap.size, 0, none⟩))) (W.alloc (.cells (AV.denL env a.cs).toArray T)) := by
    simp [execOp, ho, Instr.box, newVar, newRow, he x a hx, AV.den_cells hfl]
  rw [this];exact g
theorem mapL {ev : Operand → Value} {env : Env} (he : ∀ x a, ρ x = some a → ev x = a.den env) : ∀ (l : List (Nat × Operand)) (m : List (Nat × AV)), (l.map fun p => (p.1, ρ p.2)) = (m.map fun p => (p.1, some p.2)) →
    (l.map fun p => (p.1, ev p.2)) = m.map fun p => (p.1, p.2.den env) := by
  intro l
  induction l with
  | nil => intro m h; cases m <;> first | rfl | cases h
  | cons x l ih =>
    intro m h
    cases m with
    | nil => cases h
    | cons b m =>
      simp only [List.map_cons, List.cons.injEq, Prod.mk.injEq] at h;simp only [List.map_cons, he x.2 b.2 h.1.2, h.1.1, ih m h.2]
theorem sp_build {T : TypeId} {ps : List (Nat × Operand)} {qs : List (Nat × AV)} {z : List AV} {pl : Nat → Option (Nat × Nat)} {cells : List AV} (ho : o.op = .build T ps.toArray)
    (hb : ∀ parts, P.built T parts = Instr.fill pl (AV.denL (fun _ => undef) z).toArray parts) (hz : z.all (fun a => match a with | .val _ => true | _ => false) = true)
    (hp : (ps.map fun p => (p.1, ρ p.2)) = (qs.map fun p => (p.1, some p.2))) (hfl : qs.all (fun p => p.2.flat) = true) (hfill : fillA pl z qs = some cells) : OpSpec P o ρ [] (.agg cells) [] :=
  .pure fun ev env W O R he _ => by
    have dz : AV.denL (fun _ => undef) z = AV.denL env z := by
      clear hb hfill
      induction z with
      | nil => rfl
      | cons a l ih =>
        simp only [List.all_cons, Bool.and_eq_true] at hz;simp only [AV.denL, ih hz.2]
        congr 1
        cases a <;> first | rfl | exact absurd hz.1 (by simp)
    have h1 := fill_den env pl qs z (fun p hp => List.all_eq_true.1 hfl p hp);rw [hfill, ← mapL he ps qs hp] at h1;have h2 : P.built T ((ps.toArray.map fun x => (x.1, ev x.2)).toList) = some (AV.denL env cells).toArray := by
      rw [hb, dz]
      simpa using h1
    have h3 := run_build W T (ps.toArray.map fun x => (x.1, ev x.2)) _ h2;simp only [execOp, ho, Sem.run_bind, Sem.run_pure, Result.andThen_ok, AV.den];rw [h3]
    rfl
inductive ADL (need : List NEnt) : List AV → List D → Prop where
  | nil : ADL need [] []
  | v {x : Value} {l m} : ADL need l m → ADL need (.val x :: l) (D.v x :: m)
  | s {n size els l m} : NEnt.ro n size els ∈ need → ADL need l m → ADL need (.ref n :: l) (D.s size els :: m)
  | n {size l m} : ADL need l m → ADL need (.val (.slice none 0 0) :: l) (D.s size [] :: m)
  | p {n T cells ds l m} : NEnt.rob n cells T ∈ need → ADL need cells ds → ADL need l m → ADL need (.ptr n 0 :: l) (D.p T ds :: m)
theorem ADL.ok {need : List NEnt} {l : List AV} {m : List D} (h : ADL need l m) {env : Env} {W : World} {O : Nat → Nat → Prop} {R : Nat → Prop} (hn : ∀ x ∈ need, x.holds env W (O x.name) R) :
    l.length = m.length ∧ ∀ (k : Nat) (d : D), m[k]? = some d → ∃ u : Value, (AV.denL env l)[k]? = some u ∧ d.ok W R u := by
  induction h with
  | nil => exact ⟨rfl, fun k d hk => by simp at hk⟩
  | v _ ih =>
    refine ⟨by simp [ih.1], fun k d hk => ?_⟩
    cases k with
    | zero => simp at hk; subst hk; exact ⟨_, rfl, rfl⟩
    | succ k => simp at hk; simpa [AV.denL] using ih.2 k d hk
  | s hm _ ih =>
    refine ⟨by simp [ih.1], fun k d hk => ?_⟩
    cases k with
    | zero =>
      simp at hk; subst hk;have := hn _ hm;simp only [NEnt.holds] at this;refine ⟨_, rfl, ?_⟩;obtain ⟨a, cap, h1, rest⟩ := this;simp only [AV.den, h1, oneOf];exact ⟨a, cap, rfl, rest⟩
    | succ k => simp at hk; simpa [AV.denL] using ih.2 k d hk
  | n _ ih =>
    refine ⟨by simp [ih.1], fun k d hk => ?_⟩
    cases k with
    | zero =>
      simp at hk; subst hk;exact ⟨_, rfl, none, 0, rfl, Nat.le_refl _, Nat.zero_le _, fun _ => rfl, fun i el hi => by simp at hi⟩
    | succ k => simp at hk; simpa [AV.denL] using ih.2 k d hk
  | @p n T cells ds l m hm _ _ ihc ih =>
    refine ⟨by simp [ih.1], fun k d hk => ?_⟩
    cases k with
    | zero =>
      simp at hk; subst hk;have := hn _ hm;simp only [NEnt.holds] at this;obtain ⟨b, h1, h2, h3⟩ := this;refine ⟨_, rfl, ?_⟩;simp only [AV.den, h1, blockOff];exact ⟨b, _, rfl, h2, h3, by rw [AV.denL_map, List.length_map]; exact ihc.1, ihc.2⟩
    | succ k => simp at hk; simpa [AV.denL] using ih.2 k d hk
structure SlT (P : Program) (T E : TypeId) (size bytes : Nat) : Prop where
  under : P.underlying T = some (.slice E)
  info : ∃ i z, P.info? E = some i ∧ i.zero = some z ∧ i.size = size ∧ i.bytes = bytes ∧ z.cells.size = size
  pos : 0 < size
theorem own_new {W : World} {E : TypeId} {size len : Nat} {els : List (List D)} {cells : List Value} {R : Nat → Prop} (hsz : ∀ el ∈ els, el.length = size) (hl : els.length = len) (hc : cells.length = len * size) (hm : len ≤ maxLen)
    (hd : ∀ (k : Nat) (d : D), els.flatten[k]? = some d → ∃ u : Value, cells[k]? = some u ∧ d.ok (W.alloc (.cells cells.toArray E)) R u ∧ u.oneCell' = true) :
    owns E size els (W.alloc (.cells cells.toArray E)) (fun b => b = W.heap.size) R (.slice (some ⟨W.heap.size, 0, none⟩) len len) := by
  refine ⟨hsz, cells, ⟨by rw [hl]; exact hc, .inr ⟨W.heap.size, len, cells.toArray, by rw [hl], Nat.zero_le _, heap_alloc_new W _, by omega, hm, by simpa using hc, ?_⟩⟩, fun b hb => ?_, hd⟩
  · rw [hl, ← hc]; simp
  · simp [Value.ownBlock] at hb; exact hb.symm
theorem fill_seq (env : Env) (size : Nat) : ∀ (as_ : List AV) (k : Nat) (cur : Array Value), (∀ a ∈ as_, a.flat = true ∧ a.cs.length = size) → cur.size = (k + as_.length) * size →
    Instr.fill (fun i => some (i * size, size)) cur ((as_.zipIdx k).map fun p => (p.2, p.1.den env)) = some (cur.toList.take (k * size) ++ AV.denL env (as_.flatMap AV.cs)).toArray := by
  intro as_
  induction as_ with
  | nil =>
    intro k cur _ hs;simp at hs;simp only [List.zipIdx_nil, List.map_nil, Instr.fill, List.flatMap_nil, AV.denL, List.append_nil];rw [List.take_of_length_le (by simp [hs])]
  | cons a l ih =>
    intro k cur ha hs;obtain ⟨hf, hc⟩ := ha a (by simp);have hcd : (a.den env).cells = (AV.denL env a.cs).toArray := AV.den_cells hf env;have hsz : (a.den env).cells.size = size := by rw [hcd]; simp [denL_length, hc]
    have hle : k * size + size ≤ cur.size := by
      rw [hs, List.length_cons, show k + (l.length + 1) = (k + 1) + l.length by omega, Nat.add_mul (k + 1), Nat.add_mul k 1, Nat.one_mul]
      omega
    simp only [List.zipIdx_cons, List.map_cons, Instr.fill, hsz];rw [if_neg (by simp; omega)];have hb : k * size + 0 + (AV.denL env a.cs).length ≤ cur.size := by simp [denL_length, hc]; omega
    have hspl := fold_splice (AV.denL env a.cs) (k * size) 0 cur hb;rw [hcd, show (AV.denL env a.cs).toArray.zipIdx = ((AV.denL env a.cs).zipIdx).toArray from by simp, List.foldl_toArray];have hlen : ((AV.denL env a.cs).zipIdx.foldl (fun cs (p : Value × Nat) => cs.setIfInBounds (k * size + p.2) p.1) cur).size = cur.size := by
      have h := congrArg List.length hspl;rw [List.length_append, List.length_append, List.length_take, List.length_drop, denL_length, hc, Array.length_toList, Array.length_toList] at h
      omega
    rw [ih (k + 1) _ (fun x hx => ha x (by simp [hx])) (by rw [hlen, hs, List.length_cons]; congr 1; omega)]
    congr 2
    rw [hspl];simp only [Nat.add_zero, denL_length, hc, List.flatMap_cons, denL_append];rw [List.take_append_of_le_length (by simp [denL_length, hc, Nat.add_mul]; omega), List.take_of_length_le (by simp [denL_length, hc, Nat.add_mul]; omega)];simp
theorem run_buildSlice' (w : World) (t e : TypeId) (len : Nat) (parts : Array (Nat × Value)) (cells : Array Value) (ie : TypeInfo) (z : Value)
    (hu : P.underlying t = some (.slice e)) (hie : P.info? e = some ie) (hz : ie.zero = some z) (hsmall : ¬ len * ie.size > 2 ^ 24) (hpos : ¬ len * ie.size = 0)
    (h : Instr.fill (fun i => some (i * ie.size, ie.size)) ((Array.range (len * ie.size)).map (z.cells[· % z.cells.size]!)) parts.toList = some cells) :
    (Instr.buildSlice t len parts).run P w = .ok (.slice (some ⟨w.heap.size, 0, none⟩) len len) (w.alloc (.cells cells e)) := by
  simp [Instr.buildSlice, run_underlying hu, sizeOf, typeInfo, zeroValue, hie, hz, hsmall, hpos, h, newRow]
theorem sp_buildSlice {T E : TypeId} {size bytes len : Nat} {ps : List (Nat × Operand)} {qs : List AV} {need : List NEnt} {els : List (List D)} (n : Nat) (ho : o.op = .buildSlice T len ps.toArray)
    (hT : SlT P T E size bytes) (hsm : len * size ≤ 16777216) (hpos : 0 < len) (hl : qs.length = len)
    (hp : (ps.map fun p => (p.1, ρ p.2)) = (qs.zipIdx.map fun p => (p.2, some p.1))) (hfl : qs.all (fun p => p.flat && p.cs.length == size) = true)
    (had : ADL need (qs.flatMap AV.cs) els.flatten) (hsz : ∀ el ∈ els, el.length = size) (hel : els.length = len) (hno : (qs.flatMap AV.cs).all (fun a => !a.has n) = true) (hnn : need.all (fun x => !x.has n) = true) : OpSpec P o ρ need (.ref n) [.row n E size els] := by
  intro ev env W O R he hn _ hR;obtain ⟨i, z, hi, hz, hs, hb, hzs⟩ := hT.info;have hfl' : ∀ a ∈ qs, a.flat = true ∧ a.cs.length = size := fun a ha => by simpa using List.all_eq_true.1 hfl a ha
  have hmap : (ps.map fun p => (p.1, ev p.2)) = qs.zipIdx.map fun p => (p.2, p.1.den env) := by
    have := mapL he ps (qs.zipIdx.map fun p => (p.2, p.1)) (by rw [hp, List.map_map]; rfl);rw [this, List.map_map]; rfl
  have hfill := fill_seq env size qs 0 ((Array.range (len * size)).map (z.cells[· % z.cells.size]!)) hfl' (by simp [hl]);rw [← hmap] at hfill;simp only [Nat.zero_mul, List.take_zero, List.nil_append] at hfill;have hpos' : ¬ len * size = 0 := by have := Nat.mul_pos hpos hT.pos; omega
  have hrun := run_buildSlice' W T E len (ps.toArray.map fun p => (p.1, ev p.2)) (AV.denL env (qs.flatMap AV.cs)).toArray i z hT.under hi hz (by rw [hs]; exact Nat.not_lt.2 (by simpa using hsm)) (by rw [hs]; exact hpos') (by rw [hs]; simpa using hfill);have hexec : (execOp ev o).run P W = .ok (.value (.slice (some ⟨W.heap.size, 0, none⟩) len len)) (W.alloc (.cells (AV.denL env (qs.flatMap AV.cs)).toArray E)) := by
    simp only [execOp, ho, Sem.run_bind, Sem.run_pure, Result.andThen_ok];rw [hrun]
    rfl
  rw [hexec];have hadl := had.ok hn;have hclen : (AV.denL env (qs.flatMap AV.cs)).length = len * size := by
    rw [denL_length, hadl.1];rw [← hel]
    clear hadl had hl hel hp hfill hrun hexec hmap
    induction els with
    | nil => simp
    | cons e l ih => simp [hsz e (by simp), ih (fun x hx => hsz x (by simp [hx])), Nat.add_mul]; omega
  refine ⟨setEnv env n (.slice (some ⟨W.heap.size, 0, none⟩) len len), fun _ b => b = W.heap.size, R, fun m hm => setEnv_other (hm (.row n E size els) (by simp)), by simp [AV.den, setEnv_same, oneOf], ?_⟩;refine St.fresh (keep_alloc W _) hR ?_ (fun b hb => by subst hb; simp);simp only [NEnt.holds, setEnv_same];have hone : ∀ v ∈ AV.denL env (qs.flatMap AV.cs), v.oneCell' = true := denL_one (by
    rw [List.all_eq_true];intro a ha;obtain ⟨x, hx, hax⟩ := List.mem_flatMap.1 ha;exact List.all_eq_true.1 (cs_all_one (hfl' x hx).1) a hax)
  refine own_new hsz hel hclen (by simp only [maxLen]; have := hT.pos; have h2 : len ≤ len * size := Nat.le_mul_of_pos_right len hT.pos; omega) fun k d hk => ?_
  obtain ⟨u, hu, hd⟩ := hadl.2 k d hk;refine ⟨u, hu, d.mono W _ R R (fun b hb => ⟨hb, ?_⟩) u hd, hone u (List.mem_of_getElem? hu)⟩;exact Below.heap_alloc W _ b (hR b hb)
theorem sp_emptySlice {T E : TypeId} {size bytes : Nat} (n : Nat) (ho : o.op = .buildSlice T 0 #[]) (hT : SlT P T E size bytes) : OpSpec P o ρ [] (.ref n) [.row n E size []] := by
  intro ev env W O R he _ _ hR;obtain ⟨i, z, hi, hz, hs, hb, hzs⟩ := hT.info;have : (execOp ev o).run P W = .ok (.value (.slice (some ⟨W.heap.size, 0, none⟩) 0 0)) (W.alloc (.cells #[] E)) := by
    simp [execOp, ho, Instr.buildSlice, run_underlying hT.under, sizeOf, typeInfo, hi, Instr.fill, newRow]
    congr 1
    congr 1
    apply Array.ext <;> simp
  rw [this];refine ⟨setEnv env n (.slice (some ⟨W.heap.size, 0, none⟩) 0 0), fun _ b => b = W.heap.size, R, fun m hm => setEnv_other (hm (.row n E size []) (by simp)), by simp [AV.den, setEnv_same, oneOf], ?_⟩;refine St.fresh (keep_alloc W _) hR ?_ (fun b hb => by subst hb; simp);simp only [NEnt.holds, setEnv_same];have := own_new (W := W) (E := E) (size := size) (len := 0) (els := []) (cells := []) (R := R) (by simp) rfl (by simp) (by simp) (by simp);exact this
end
end Go.Proofs.Ythgbjhglhejalaa.Sy
end
section
set_option linter.unusedSimpArgs false
set_option linter.unusedVariables false
namespace Go.Proofs.Ythgbjhglhejalaa.Sy
open Go.RowKit
def IsRow (x : NEnt) (n size : Nat) (els : List (List D)) : Prop := x = .ro n size els ∨ ∃ E, x = .row n E size els
theorem IsRow.name {x : NEnt} {n size : Nat} {els : List (List D)} (h : IsRow x n size els) : x.name = n := by
  rcases h with rfl | ⟨E, rfl⟩ <;> rfl
theorem isRo {n size : Nat} {els : List (List D)} : IsRow (.ro n size els) n size els := .inl rfl
theorem isOwn {n E size : Nat} {els : List (List D)} : IsRow (.row n E size els) n size els := .inr ⟨E, rfl⟩
theorem flatten_get {α : Type} {size : Nat} : ∀ (els : List (List α)) (i j : Nat) (el : List α), (∀ x ∈ els, x.length = size) → els[i]? = some el → j < size → els.flatten[i * size + j]? = el[j]? := by
  intro els
  induction els with
  | nil => intro i j el _ h; simp at h
  | cons x l ih =>
    intro i j el hs h hj;have hx : x.length = size := hs x (by simp)
    cases i with
    | zero =>
      simp at h; subst h;simp only [Nat.zero_mul, Nat.zero_add, List.flatten_cons];rw [List.getElem?_append_left (by omega)]
    | succ i =>
      simp at h;rw [List.flatten_cons, List.getElem?_append_right (by rw [hx, Nat.add_mul]; omega)];rw [show (i + 1) * size + j - x.length = i * size + j by rw [hx, Nat.add_mul]; omega];exact ih i j el (fun y hy => hs y (by simp [hy])) h hj
theorem row_read {x : NEnt} {n size : Nat} {els : List (List D)} {env : Env} {W : World} {O R : Nat → Prop} (hx : IsRow x n size els) (h : x.holds env W O R) :
    ∃ a cap, env n = .slice a els.length cap ∧ els.length ≤ cap ∧ cap ≤ maxLen ∧ (a = none → cap = 0) ∧
      ∀ i el, els[i]? = some el → el.length = size ∧ ∀ j d, el[j]? = some d → ∃ b o, a = some ⟨b, o, none⟩ ∧ (R b ∨ O b) ∧ ∃ u : Value, W.cell? ⟨b, o + (i * size + j), none⟩ = some u ∧ d.ok W R u ∧ u.oneCell' = true := by
  rcases hx with rfl | ⟨E, rfl⟩
  · obtain ⟨a, cap, h1, h2, h3, h4, h5⟩ := h;refine ⟨a, cap, h1, h2, h3, h4, fun i el hi => ⟨(h5 i el hi).1, fun j d hj => ?_⟩⟩;obtain ⟨b, o, ha, hb, rest⟩ := (h5 i el hi).2 j d hj;exact ⟨b, o, ha, .inl hb, rest⟩
  · obtain ⟨hs, cells, ho, hb, hd⟩ := h;rcases ho.2 with ⟨hv, hn⟩ | ⟨g, cap, cur, hv, _, hg, hnc, hcm, hcs, htk⟩
    · have hnil : els = [] := List.eq_nil_of_length_eq_zero hn;subst hnil;exact ⟨none, 0, hv, Nat.le_refl _, Nat.zero_le _, fun _ => rfl, fun i el hi => by simp at hi⟩
    · refine ⟨some ⟨g, 0, none⟩, cap, hv, hnc, hcm, by simp, fun i el hi => ?_⟩;have hel : el.length = size := hs el (List.mem_of_getElem? hi);refine ⟨hel, fun j d hj => ?_⟩;have hjs : j < size := by
        have := (List.getElem?_eq_some_iff.1 hj).1
        omega
      obtain ⟨u, hu, hok, h1c⟩ := hd (i * size + j) d (by rw [flatten_get els i j el hs hi hjs]; exact hj);have hc := World.ownsRow.cells ho (g := g) (by rw [hv]; rfl) (i * size + j) u hu;have hadd : (⟨g, 0, none⟩ : Addr).add (i * size + j) = ⟨g, i * size + j, none⟩ := by unfold Addr.add; split <;> simp_all
      rw [hadd] at hc;exact ⟨g, 0, rfl, .inr (hb g (by rw [hv]; rfl)), u, by rw [Nat.zero_add]; exact hc, hok, h1c⟩
theorem add_lit (b o k : Nat) : (⟨b, o, none⟩ : Addr).add k = ⟨b, o + k, none⟩ := by unfold Addr.add; split <;> simp_all
theorem cellAt_eq {v : Value} {b o len cap k : Nat} (h : v = .slice (some ⟨b, o, none⟩) len cap) : cellAt v k = .pointer (some ⟨b, o + k, none⟩) := by
  subst h; simp [cellAt, add_lit]
structure VarT (P : Program) (T size : Nat) (agg : Bool) : Prop where
  isAgg : ∀ w, (isAgg T).run P w = .ok agg w
  sizeOf : ∀ w, (sizeOf T).run P w = .ok size w
def FieldT (P : Program) (T f off ft : Nat) : Prop := ∃ fs fd, P.underlying T = some (.struct fs) ∧ fs[f]? = some fd ∧ fd.offset = off ∧ fd.type = ft
inductive DAL : List D → List AV → List NEnt → Prop where
  | nil : DAL [] [] []
  | v {x : Value} {l m ns} : DAL l m ns → DAL (D.v x :: l) (.val x :: m) ns
  | s {n size els l m ns} : DAL l m ns → DAL (D.s size els :: l) (.ref n :: m) (.ro n size els :: ns)
theorem DAL.has {ds : List D} {as_ : List AV} {ns : List NEnt} (h : DAL ds as_ ns) {n : Nat} (hn : AV.hasL n as_ = true) : ∃ x ∈ ns, x.name = n := by
  induction h with
  | nil => cases hn
  | v _ ih => simp only [AV.hasL, AV.has, Bool.false_or] at hn; exact ih hn
  | s _ ih =>
    simp only [AV.hasL, AV.has, Bool.or_eq_true, beq_iff_eq] at hn;rcases hn with rfl | hn
    · exact ⟨_, List.mem_cons_self, rfl⟩
    · obtain ⟨x, hx, e⟩ := ih hn; exact ⟨x, by simp [hx], e⟩
theorem DAL.onlyName {ds : List D} {as_ : List AV} {ns : List NEnt} (h : DAL ds as_ ns) {x : NEnt} (hx : x ∈ ns) {k : Nat} (hk : x.has k = true) : k = x.name := by
  induction h with
  | nil => cases hx
  | v _ ih => exact ih hx
  | s _ ih =>
    rcases List.mem_cons.1 hx with rfl | hx'
    · simp only [NEnt.has, beq_iff_eq] at hk; exact hk.symm
    · exact ih hx'
theorem DAL.ok {ds : List D} {as_ : List AV} {ns : List NEnt} (h : DAL ds as_ ns) (env : Env) (W : World) (R : Nat → Prop) : ∀ us : List Value, ds.length = us.length →
    (∀ (j : Nat) (d : D), ds[j]? = some d → ∃ u : Value, us[j]? = some u ∧ d.ok W R u) → (ns.map NEnt.name).Nodup →
    ∃ env', (∀ n, (∀ x ∈ ns, x.name ≠ n) → env' n = env n) ∧ AV.denL env' as_ = us ∧ ∀ x ∈ ns, ∀ O, x.holds env' W O R := by
  induction h with
  | nil => intro us hl _ _; exact ⟨env, fun _ _ => rfl, by cases us <;> first | rfl | simp at hl, by simp⟩
  | v _ ih =>
    intro us hl hd hn
    cases us with
    | nil => simp at hl
    | cons u us =>
      obtain ⟨env', h1, h2, h3⟩ := ih us (by simpa using hl) (fun j d hj => by simpa using hd (j + 1) d (by simpa using hj)) hn;obtain ⟨u', hu', hok⟩ := hd 0 _ (by rfl);simp at hu'; subst hu';exact ⟨env', h1, by simp only [AV.denL, AV.den, h2]; rw [show u = _ from hok], h3⟩
  | @s n size els l m ns hd' ih =>
    intro us hl hd hn
    cases us with
    | nil => simp at hl
    | cons u us =>
      simp only [List.map_cons, List.nodup_cons] at hn;obtain ⟨env1, h1, h2, h3⟩ := ih us (by simpa using hl) (fun j d hj => by simpa using hd (j + 1) d (by simpa using hj)) hn.2;obtain ⟨u', hu', hok⟩ := hd 0 _ (by rfl);simp at hu'; subst hu';have hno : ∀ x ∈ ns, x.name ≠ n := fun x hx e => hn.1 (List.mem_map.2 ⟨x, hx, e⟩)
      have hnm : AV.hasL n m = false := by
        cases e : AV.hasL n m with
        | false => rfl
        | true => obtain ⟨x, hx, en⟩ := hd'.has e; exact absurd en (hno x hx)
      have hro : reads size els W R u := hok;refine ⟨setEnv env1 n u, fun k hk => ?_, ?_, ?_⟩
      · rw [setEnv_other (show n ≠ k from hk (.ro n size els) (by simp))];exact h1 k fun x hx => hk x (by simp [hx])
      · simp only [AV.denL, AV.den, setEnv_same, denL_set hnm, h2];obtain ⟨a, cap, e, _⟩ := hro;rw [e]; rfl
      · intro x hx O;rcases List.mem_cons.1 hx with rfl | hx
        · simp only [NEnt.holds, setEnv_same]; exact hro
        · refine NEnt.holds_congr (fun k hk => ?_) (h3 x hx O)
          -- x is an entry of ns: all are slices that are read
          have hxn : ∀ k, x.has k = true → k = x.name := fun k hk => hd'.onlyName hx hk
          rw [setEnv_other (fun e => hno x hx (by rw [← hxn k hk]; exact e.symm))]
def IsBlk (x : NEnt) (n : Nat) (cells : List AV) : Prop := ∃ T, x = .blk n cells T ∨ x = .rob n cells T
theorem isBlk {n : Nat} {cells : List AV} {T : TypeId} : IsBlk (.blk n cells T) n cells := ⟨T, .inl rfl⟩
theorem isRob {n : Nat} {cells : List AV} {T : TypeId} : IsBlk (.rob n cells T) n cells := ⟨T, .inr rfl⟩
theorem blk_cell {x : NEnt} {n : Nat} {cells : List AV} {env : Env} {W : World} {O R : Nat → Prop} (hx : IsBlk x n cells) (h : x.holds env W O R) :
    ∃ b T, env n = .pointer (some ⟨b, 0, none⟩) ∧ W.heap[b]? = some (.cells (AV.denL env cells).toArray T (0, 0)) ∧ ∀ (i : Nat) (a : AV), cells[i]? = some a → W.cell? ⟨b, i, none⟩ = some (a.den env) := by
  obtain ⟨T, rfl | rfl⟩ := hx
  all_goals
    obtain ⟨b, h1, h2, h3⟩ := h;exact ⟨b, T, h1, h3, fun i a hi => by simp [World.cell?, h3, denL_get hi]⟩
theorem St.roNews {W : World} {R : Nat → Prop} {env : Env} {ns : List NEnt} (hR : ∀ b, R b → b < W.heap.size) (h : ∀ x ∈ ns, ∀ O, x.holds env W O R) (hn : (ns.map NEnt.name).Nodup) :
    St ⟨W, fun _ => False, R⟩ env ns W (fun _ _ => False) R :=
  ⟨Keep.refl _ _, fun x hx => h x hx _, fun _ _ _ h => h.elim, fun _ _ _ _ _ _ h => h.1, fun b h => ⟨hR b h, .inr (.inl h)⟩, fun _ h => h, hn⟩
section
variable {P : Program} {o : Oper} {ρ : Operand → Option AV}
theorem sp_loadB {T : TypeId} {x : Operand} {n off sz : Nat} {cells : List AV} {y : NEnt} {a : AV} (ho : o.op = .load T x) (hy : IsBlk y n cells) (hx : ρ x = some (.ptr n off)) (hT : VarT P T sz false) (hc : cells[off]? = some a) :
    OpSpec P o ρ [y] a [] :=
  .pure fun ev env W O R he hn => by
    obtain ⟨b, T', h1, h3, h4⟩ := blk_cell hy (hn _ (List.mem_singleton.2 rfl));simp [execOp, ho, he x _ hx, AV.den, h1, blockOff, Instr.loadAt, Instr.sureAddr, loadVar, hT.isAgg, h4 _ _ hc]
theorem sp_loadBA {T : TypeId} {x : Operand} {n off sz : Nat} {cells as_ : List AV} {y : NEnt} (ho : o.op = .load T x) (hy : IsBlk y n cells) (hx : ρ x = some (.ptr n off)) (hT : VarT P T sz true) (hc : (cells.drop off).take sz = as_) (hl : as_.length = sz) :
    OpSpec P o ρ [y] (.agg as_) [] :=
  .pure fun ev env W O R he hn => by
    obtain ⟨b, T', h1, h3, h4⟩ := blk_cell hy (hn _ (List.mem_singleton.2 rfl));have hld := run_loadCells_list (P := P) W ⟨b, off, none⟩ (AV.denL env as_) (fun j v hj => by
      rw [add_lit];have hj' : j < sz := by
        have := (List.getElem?_eq_some_iff.1 hj).1;rw [denL_length] at this; omega
      subst hc;rw [denL_take, denL_drop, List.getElem?_take_of_lt hj', List.getElem?_drop] at hj;rw [AV.denL_map, List.getElem?_map] at hj
      cases hcell : cells[off + j]? with
      | none => rw [hcell] at hj; cases hj
      | some a => rw [hcell] at hj; cases hj; exact h4 _ _ hcell)
    rw [denL_length, hl] at hld;simp [execOp, ho, he x _ hx, AV.den, h1, blockOff, Instr.loadAt, Instr.sureAddr, loadVar, hT.isAgg, hT.sizeOf, hld]
theorem sp_loadR {T : TypeId} {x : Operand} {n size i j k sz : Nat} {els : List (List D)} {el ds : List D} {y : NEnt} {a : AV} {ns : List NEnt} (ho : o.op = .load T x) (hx : ρ x = some (.cell n k)) (hy : IsRow y n size els) (hT : VarT P T sz false)
    (hk : k = i * size + j) (hi : els[i]? = some el) (hj : el[j]? = ds.head?) (hd : DAL ds [a] ns) (hns : (ns.map NEnt.name).Nodup) : OpSpec P o ρ [y] a ns := by
  intro ev env W O R he hn _ hR;obtain ⟨ad, cap, h1, h2, h3, h4, h5⟩ := row_read hy (hn _ (List.mem_singleton.2 rfl));obtain ⟨d, hd1⟩ : ∃ d, ds = [d] := by
    cases hd with
    | v h => cases h; exact ⟨_, rfl⟩
    | s h => cases h; exact ⟨_, rfl⟩
  subst hd1;obtain ⟨b, off, ha, _, u, hu, hok, _⟩ := (h5 i el hi).2 j d (by simpa using hj);subst ha;obtain ⟨env', e1, e2, e3⟩ := hd.ok env W R [u] rfl (fun j' d' hj' => by
    cases j' with
    | zero => simp at hj'; subst hj'; exact ⟨u, rfl, hok⟩
    | succ j' => simp at hj') hns
  have hx' := he x _ hx;simp only [AV.den, cellAt_eq h1, hk] at hx';have : (execOp ev o).run P W = .ok (.value u) W := by
    simp [execOp, ho, hx', Instr.loadAt, Instr.sureAddr, loadVar, hT.isAgg, hu]
  rw [this];refine ⟨env', _, R, e1, ?_, St.roNews hR e3 hns⟩;simp only [AV.denL, List.cons.injEq] at e2;exact e2.1.symm
theorem sp_loadRA {T : TypeId} {x : Operand} {n size i j k sz : Nat} {els : List (List D)} {el ds : List D} {y : NEnt} {as_ : List AV} {ns : List NEnt} (ho : o.op = .load T x) (hx : ρ x = some (.cell n k)) (hy : IsRow y n size els) (hT : VarT P T sz true)
    (hk : k = i * size + j) (hi : els[i]? = some el) (hj : (el.drop j).take sz = ds) (hl : ds.length = sz) (h0 : 0 < sz) (hd : DAL ds as_ ns) (hns : (ns.map NEnt.name).Nodup) : OpSpec P o ρ [y] (.agg as_) ns := by
  intro ev env W O R he hn _ hR;obtain ⟨ad, cap, h1, h2, h3, h4, h5⟩ := row_read hy (hn _ (List.mem_singleton.2 rfl));have hget : ∀ (m : Nat) (d : D), ds[m]? = some d → el[j + m]? = some d := by
    intro m d hm;have hlt : m < sz := by have := (List.getElem?_eq_some_iff.1 hm).1; omega
    subst hj
    rwa [List.getElem?_take_of_lt hlt, List.getElem?_drop] at hm
  obtain ⟨d0, hd0⟩ : ∃ d, ds[0]? = some d := ⟨ds[0]'(by omega), by simp⟩;obtain ⟨b, off, ha, _⟩ := (h5 i el hi).2 (j + 0) d0 (hget 0 d0 hd0);subst ha;have hu : ∀ m, m < sz → ∃ u, W.cell? ⟨b, off + (i * size + (j + m)), none⟩ = some u ∧ ∀ d, ds[m]? = some d → d.ok W R u := by
    intro m hm;obtain ⟨d, hdm⟩ : ∃ d, ds[m]? = some d := ⟨ds[m]'(by omega), by simp⟩;obtain ⟨b', o', ha', _, u, hu, hok, _⟩ := (h5 i el hi).2 (j + m) d (hget m d hdm);cases ha'
    exact ⟨u, hu, fun d' hd' => by rw [hdm] at hd'; cases hd'; exact hok⟩
  obtain ⟨us, hul, hus⟩ : ∃ us : List Value, us.length = sz ∧ ∀ m u, us[m]? = some u → W.cell? ⟨b, off + (i * size + (j + m)), none⟩ = some u ∧ ∀ d, ds[m]? = some d → d.ok W R u := by
    clear hd hl hget hd0 hT hj h0
    induction sz with
    | zero => exact ⟨[], rfl, by simp⟩
    | succ sz ih =>
      obtain ⟨us, h1, h2⟩ := ih (fun m hm => hu m (by omega));obtain ⟨u, hu1⟩ := hu sz (by omega);refine ⟨us ++ [u], by simp [h1], fun m v hm => ?_⟩;rcases Nat.lt_or_ge m us.length with hlt | hge
      · rw [List.getElem?_append_left hlt] at hm; exact h2 m v hm
      · have : m = sz := by
          have := (List.getElem?_eq_some_iff.1 hm).1;simp at this; omega
        subst this;rw [List.getElem?_append_right hge] at hm;simp [h1] at hm;subst hm;exact hu1
  obtain ⟨env', e1, e2, e3⟩ := hd.ok env W R us (by omega) (fun m d hm => by
    have hlt : m < us.length := by have := (List.getElem?_eq_some_iff.1 hm).1; omega
    exact ⟨us[m], by simp, (hus m us[m] (by simp)).2 d hm⟩) hns
  have hld := run_loadCells_list (P := P) W ⟨b, off + k, none⟩ us (fun m v hm => by
    rw [add_lit];have := (hus m v hm).1;rw [hk, show off + (i * size + j) + m = off + (i * size + (j + m)) by omega]; exact this)
  rw [hul] at hld;have hx' := he x _ hx;simp only [AV.den, cellAt_eq h1] at hx';have : (execOp ev o).run P W = .ok (.value (.agg us.toArray)) W := by
    simp [execOp, ho, hx', Instr.loadAt, Instr.sureAddr, loadVar, hT.isAgg, hT.sizeOf, hld]
  rw [this];exact ⟨env', _, R, e1, by simp only [AV.den, e2], St.roNews hR e3 hns⟩
theorem sp_field {T : TypeId} {x : Operand} {f off ft sz : Nat} {cs : List AV} {a : AV} (ho : o.op = .field T x f) (hx : ρ x = some (.agg cs)) (hf : FieldT P T f off ft) (hT : VarT P ft sz false) (hc : cs[off]? = some a) : OpSpec P o ρ [] a [] :=
  .pure fun ev env W O R he _ => by
    obtain ⟨fs, fd, h1, h2, h3, h4⟩ := hf;subst h3; subst h4;simp [execOp, ho, he x _ hx, AV.den, Instr.field, run_underlying h1, h2, asAgg, part, hT.isAgg, denL_get hc]
theorem sp_fieldA {T : TypeId} {x : Operand} {f off ft sz : Nat} {cs as_ : List AV} (ho : o.op = .field T x f) (hx : ρ x = some (.agg cs)) (hf : FieldT P T f off ft) (hT : VarT P ft sz true) (hc : (cs.drop off).take sz = as_) : OpSpec P o ρ [] (.agg as_) [] :=
  .pure fun ev env W O R he _ => by
    obtain ⟨fs, fd, h1, h2, h3, h4⟩ := hf;subst h3; subst h4; subst hc;have : (AV.denL env cs).toArray.extract fd.offset (fd.offset + sz) = (AV.denL env ((cs.drop fd.offset).take sz)).toArray := by
      rw [denL_take, denL_drop];apply Array.ext';simp [List.extract_eq_take_drop]
    simp [execOp, ho, he x _ hx, AV.den, Instr.field, run_underlying h1, h2, asAgg, part, hT.isAgg, hT.sizeOf, denL_take, denL_drop]
theorem sp_fieldAddrB {T : TypeId} {x : Operand} {f off ft sz n k : Nat} {ag : Bool} {cells : List AV} {y : NEnt} (ho : o.op = .fieldAddr T x f) (hy : IsBlk y n cells) (hx : ρ x = some (.ptr n k)) (hf : FieldT P T f off ft) (hT : VarT P ft sz ag) (h0 : sz ≠ 0) :
    OpSpec P o ρ [y] (.ptr n (k + off)) [] :=
  .pure fun ev env W O R he hn => by
    obtain ⟨fs, fd, h1, h2, h3, h4⟩ := hf;subst h3; subst h4;obtain ⟨b, T', e1, _⟩ := blk_cell hy (hn _ (List.mem_singleton.2 rfl));simp [execOp, ho, he x _ hx, AV.den, Instr.fieldAt, run_underlying h1, h2, e1, blockOff, Instr.sureAddr, fieldPlace, hT.sizeOf, h0, add_lit]
theorem sp_indexS {T E : TypeId} {size bytes n : Nat} {x i : Operand} {k : IntKind} {iv : Int} {els : List (List D)} {el : List D} {y : NEnt} (ho : o.op = .indexAddr T x i) (hx : ρ x = some (.ref n)) (hi : ρ i = some (.val (.int k iv))) (hy : IsRow y n size els) (hT : SlT P T E size bytes)
    (h0 : decide (0 ≤ iv) = true) (he : els[iv.toNat]? = some el) : OpSpec P o ρ [y] (.cell n (iv.toNat * size)) [] :=
  .pure fun ev env W O R hev hn => by
    obtain ⟨ad, cap, g1, g2, g3, g4, g5⟩ := row_read hy (hn _ (List.mem_singleton.2 rfl));obtain ⟨ti, z, hti, _, hts, _, _⟩ := hT.info;have h0' : 0 ≤ iv := of_decide_eq_true h0;have hlt : iv.toNat < els.length := (List.getElem?_eq_some_iff.1 he).1;have hlt' : iv < els.length := by omega
    cases ad with
    | none => have := g4 rfl; omega
    | some ad =>
      have hx' := hev x _ hx;simp only [AV.den, g1, oneOf] at hx';simp [execOp, ho, hx', hev i _ hi, AV.den, Instr.indexAt, asIntOf, run_underlying hT.under, sizeOf, typeInfo, hti, hts, h0', hlt', g1, cellAt]
theorem sp_indexA {T E : TypeId} {size len n off : Nat} {ag : Bool} {x i : Operand} {k : IntKind} {iv : Int} {cells : List AV} {y : NEnt} (ho : o.op = .indexAddr T x i) (hy : IsBlk y n cells) (hx : ρ x = some (.ptr n off)) (hi : ρ i = some (.val (.int k iv))) (hT : P.underlying T = some (.array len E)) (hE : VarT P E size ag)
    (h0 : (decide (0 ≤ iv) && decide (iv < len)) = true) : OpSpec P o ρ [y] (.ptr n (off + iv.toNat * size)) [] :=
  .pure fun ev env W O R hev hn => by
    obtain ⟨b, T', e1, _⟩ := blk_cell hy (hn _ (List.mem_singleton.2 rfl));simp only [Bool.and_eq_true, decide_eq_true_eq] at h0;simp [execOp, ho, hev x _ hx, hev i _ hi, AV.den, e1, blockOff, Instr.indexAt, asIntOf, run_underlying hT, Instr.sureAddr, hE.sizeOf, h0.1, h0.2, add_lit]
theorem sp_nilCheck {x : Operand} {n off : Nat} {cells : List AV} {y : NEnt} (ho : o.op = .nilCheck x) (hy : IsBlk y n cells) (hx : ρ x = some (.ptr n off)) : OpSpec P o ρ [y] (.ptr n off) [] :=
  .pure fun ev env W O R he hn => by
    obtain ⟨b, T', hb, _⟩ := blk_cell hy (hn _ (List.mem_singleton.2 rfl));simp [execOp, ho, he x _ hx, AV.den, hb, blockOff]
theorem sp_len {T E : TypeId} {size n : Nat} {x : Operand} {els : List (List D)} {y : NEnt} (ho : o.op = .call { callee := .builtin .len, args := #[x], argTypes := #[T] }) (hx : ρ x = some (.ref n)) (hy : IsRow y n size els) (hT : P.underlying T = some (.slice E)) :
    OpSpec P o ρ [y] (.val (.int .i64 els.length)) [] :=
  .pure fun ev env W O R hev hn => by
    obtain ⟨ad, cap, g1, _⟩ := row_read hy (hn _ (List.mem_singleton.2 rfl));have hx' := hev x _ hx;simp only [AV.den, g1, oneOf] at hx';simp [execOp, ho, resolve, invoke, builtin, hx', Builtin.len_, run_underlying hT, goInt, AV.den]
theorem sp_max {T U : TypeId} {x y : Operand} {k : IntKind} {m n : Int} (ho : o.op = .call { callee := .builtin .max, args := #[x, y], argTypes := #[T, U] }) (hx : ρ x = some (.val (.int k m))) (hy : ρ y = some (.val (.int k n))) :
    OpSpec P o ρ [] (.val (.int k (max m n))) [] :=
  .pure fun ev env W O R hev hn => by
    have hm : (if m < n then n else m) = max m n := by rw [Int.max_def]; split <;> split <;> omega
    simp [execOp, ho, resolve, invoke, builtin, hev x _ hx, hev y _ hy, Builtin.max_, Builtin.max2, AV.den, List.foldlM]
    first | exact hm | (rw [← hm]) | (rw [Int.max_def]; split <;> split <;> omega)
theorem sp_min {T U : TypeId} {x y : Operand} {k : IntKind} {m n : Int} (ho : o.op = .call { callee := .builtin .min, args := #[x, y], argTypes := #[T, U] }) (hx : ρ x = some (.val (.int k m))) (hy : ρ y = some (.val (.int k n))) :
    OpSpec P o ρ [] (.val (.int k (min m n))) [] :=
  .pure fun ev env W O R hev hn => by
    simp [execOp, ho, resolve, invoke, builtin, hev x _ hx, hev y _ hy, Builtin.min_, Builtin.min2, AV.den, List.foldlM]
    first | (rw [Int.min_def]; split <;> split <;> omega)
end
end Go.Proofs.Ythgbjhglhejalaa.Sy
end
section
set_option linter.unusedSimpArgs false
set_option linter.unusedVariables false
namespace Go.Proofs.Ythgbjhglhejalaa.Sy
open Go.RowKit
def SubS (p : Nat → Nat) (s : List (Nat × AV)) : List (Nat × AV) → Prop
  | [] => True
  | (t, a) :: l => look s t = some (a.ren p) ∧ SubS p s l
theorem SubS.look {p : Nat → Nat} {s s' : List (Nat × AV)} (h : SubS p s s') {t : Nat} {a : AV} (ht : look s' t = some a) : Sy.look s t = some (a.ren p) := by
  induction s' with
  | nil => cases ht
  | cons x l ih =>
    obtain ⟨k, b⟩ := x;simp only [Sy.look] at ht
    split at ht
    · rename_i e; subst e; cases ht; exact h.1
    · exact ih h.2 ht
def SubV (p : Nat → Nat) (V : List NEnt) : List NEnt → Prop
  | [] => True
  | x :: l => x.ren p ∈ V ∧ SubV p V l
theorem SubV.mem {p : Nat → Nat} {V V' : List NEnt} (h : SubV p V V') : ∀ x ∈ V', x.ren p ∈ V := by
  induction V' with
  | nil => simp
  | cons y l ih =>
    intro x hx;rcases List.mem_cons.1 hx with rfl | hx
    · exact h.1
    · exact ih h.2 x hx
theorem mem_at {α : Type} {l : List α} {x : α} (i : Nat) (h : l[i]? = some x) : x ∈ l := List.mem_of_getElem? h
theorem nodup_map_name {p : Nat → Nat} {V' : List NEnt} (hn : (V'.map fun x => p x.name).Nodup) : ∀ x ∈ V', ∀ y ∈ V', x.name ≠ y.name → p x.name ≠ p y.name := by
  induction V' with
  | nil => simp
  | cons a l ih =>
    simp only [List.map_cons, List.nodup_cons, List.mem_map, not_exists, not_and] at hn;intro x hx y hy hne;rcases List.mem_cons.1 hx with e1 | h1 <;> rcases List.mem_cons.1 hy with e2 | h2
    · exact absurd (by rw [e1, e2]) hne
    · intro e; rw [e1] at e; exact hn.1 y h2 e.symm
    · intro e; rw [e2] at e; exact hn.1 x h1 e
    · exact ih hn.2 x h1 y h2 hne
theorem nodup_of_map {p : Nat → Nat} {V' : List NEnt} (hn : (V'.map fun x => p x.name).Nodup) : (V'.map NEnt.name).Nodup := by
  have h : V'.map (fun x => p x.name) = (V'.map NEnt.name).map p := by simp [List.map_map, Function.comp_def]
  rw [h] at hn;exact (List.Pairwise.of_map p (fun a b hab e => hab (by rw [e])) hn)
theorem St.sub {c : Ctx} {env : Env} {V V' : List NEnt} {W : World} {O : Nat → Nat → Prop} {R : Nat → Prop} (h : St c env V W O R) (p : Nat → Nat) (hV : ∀ x ∈ V', x.ren p ∈ V) (hn : (V'.map fun x => p x.name).Nodup) :
    St c (fun n => env (p n)) V' W (fun n => O (p n)) R := by
  refine ⟨h.keep, fun x hx => ?_, fun x hx b hb => ?_, fun x hx y hy hne b hb => ?_, h.ro, h.r0, nodup_of_map hn⟩
  · have := h.holds _ (hV x hx);rw [NEnt.holds_ren, NEnt.name_ren] at this;exact this
  · have := h.own _ (hV x hx) b;rw [NEnt.name_ren] at this;exact this hb
  · have := h.apart _ (hV x hx) _ (hV y hy) (by rw [NEnt.name_ren, NEnt.name_ren]; exact nodup_map_name hn x hx y hy hne) b;rw [NEnt.name_ren, NEnt.name_ren] at this;exact this hb
section
variable {P : Program} {c : Ctx} {sz : Fm} {Q : Exit → Act → World → Prop} {t : List Item} {s s' : List (Nat × AV)} {V V' : List NEnt} {ops : Array Oper} {rest : List Oper} {o : Oper}
theorem TC.sub (p : Nat → Nat) (h : TC P c sz Q t s' V') (hs : SubS p s s') (hV : SubV p V V') (hn : (V'.map fun x => p x.name).Nodup) : TC P c sz Q t s V := by
  intro env tm W O R hf hst;refine h _ tm W _ R ⟨hf.1, fun t a ha => ?_⟩ (hst.sub p hV.mem hn);rw [hf.2 t _ (hs.look ha), AV.den_ren]
theorem ghost {s' : List (Nat × AV)} {V' : List NEnt} (hg : ∀ env tm W O R, Fr env sz.sz s tm → St c env V W O R → ∃ env' O' R', Fr env' sz.sz s' tm ∧ St c env' V' W O' R') :
    (TC P c sz Q t s' V' → TC P c sz Q t s V) ∧ (TL P c sz Q ops rest t s' V' → TL P c sz Q ops rest t s V) :=
  ⟨fun h env tm W O R hf hst => let ⟨env', O', R', h1, h2⟩ := hg env tm W O R hf hst; h env' tm W O' R' h1 h2,
   fun h env tm W O R hf hst => let ⟨env', O', R', h1, h2⟩ := hg env tm W O R hf hst; h env' tm W O' R' h1 h2⟩
def NEnt.toRo : NEnt → NEnt
  | .row n _ size els => .ro n size els
  | .blk n cells T => .rob n cells T
  | .inv n I => .any n I.froz
  | x => x
theorem NEnt.toRo_name (x : NEnt) : x.toRo.name = x.name := by cases x <;> rfl
theorem row_ro {n E size : Nat} {els : List (List D)} {env : Env} {W : World} {O R R' : Nat → Prop} (hO : ∀ b, O b → R' b) (hR : ∀ b, R b → R' b) (h : (NEnt.row n E size els).holds env W O R) : reads size els W R' (env n) := by
  obtain ⟨a, cap, h1, h2, h3, h4, h5⟩ := row_read isOwn h;refine ⟨a, cap, h1, h2, h3, h4, fun i el hi => ⟨(h5 i el hi).1, fun j d hj => ?_⟩⟩;obtain ⟨b, o, ha, hb, u, hu, hd, h1⟩ := (h5 i el hi).2 j d hj;exact ⟨b, o, ha, hb.elim (hR b) (hO b), u, hu, d.mono W W R R' (fun b hb => ⟨hR b hb, rfl⟩) u hd, h1⟩
theorem NEnt.toRo_holds {x : NEnt} {env : Env} {W : World} {O R R' : Nat → Prop} (hO : ∀ b, O b → R' b) (hR : ∀ b, R b → R' b) (h : x.holds env W O R) (O' : Nat → Prop) : x.toRo.holds env W O' R' := by
  cases x with
  | row n E size els => exact row_ro hO hR h
  | blk n cells T => obtain ⟨b, h1, h2, h3⟩ := h; exact ⟨b, h1, hO b h2, h3⟩
  | ro n size els => exact reads_mono (fun b hb => ⟨hR b hb, rfl⟩) h
  | rob n cells T => obtain ⟨b, h1, h2, h3⟩ := h; exact ⟨b, h1, hR b h2, h3⟩
  | any n d => exact d.mono W W R R' (fun b hb => ⟨hR b hb, rfl⟩) _ h
  | inv n I => exact ⟨O, hO, I.keep W W O R R' (fun _ _ => rfl) (fun b hb => ⟨hR b hb, rfl⟩) _ h⟩
  | pin g n u => exact h
theorem St.freeze {c : Ctx} {env : Env} {V : List NEnt} {W : World} {O : Nat → Nat → Prop} {R : Nat → Prop} (h : St c env V W O R) (k : Nat) {x : NEnt} (hk : V[k]? = some x) :
    St c env (V.set k x.toRo) W (fun n b => n ≠ x.name ∧ O n b) (fun b => R b ∨ O x.name b) := by
  classical
  have hx : x ∈ V := List.mem_of_getElem? hk;have hmem : ∀ z ∈ V.set k x.toRo, z = x.toRo ∨ (z ∈ V) := fun z hz => by
    rcases List.mem_or_eq_of_mem_set hz with h | h
    · exact .inr h
    · exact .inl h
  have hnames : (V.set k x.toRo).map NEnt.name = V.map NEnt.name := by
    apply List.ext_getElem?;intro i;simp only [List.getElem?_map, List.getElem?_set]
    split
    · rename_i e; subst e
      split
      · rw [hk]; simp [NEnt.toRo_name]
      · rename_i hlt
        rw [List.getElem?_eq_none (by omega)]
    · rfl
  have hnd : ((V.set k x.toRo).map NEnt.name).Nodup := by rw [hnames]; exact h.names
  have hin : ∀ z ∈ V.set k x.toRo, z ≠ x.toRo → z.name ≠ x.name := by
    intro z hz hne e;have h1 : x.toRo ∈ V.set k x.toRo := List.mem_of_getElem? (i := k) (by rw [List.getElem?_set_self]; exact (List.getElem?_eq_some_iff.1 hk).1);have : ∀ (l : List NEnt), (l.map NEnt.name).Nodup → ∀ a ∈ l, ∀ b ∈ l, a.name = b.name → a = b := by
      intro l
      induction l with
      | nil => simp
      | cons y l ih =>
        intro hn a ha b hb hab;simp only [List.map_cons, List.nodup_cons, List.mem_map, not_exists, not_and] at hn;rcases List.mem_cons.1 ha with e1 | h1 <;> rcases List.mem_cons.1 hb with e2 | h2
        · rw [e1, e2]
        · rw [e1] at hab; exact absurd hab.symm (hn.1 b h2)
        · rw [e2] at hab; exact absurd hab (hn.1 a h1)
        · exact ih hn.2 a h1 b h2 hab
    exact hne (this _ hnd z hz _ h1 (by rw [e, NEnt.toRo_name]))
  have hown : ∀ z ∈ V.set k x.toRo, ∀ b, (z.name ≠ x.name ∧ O z.name b) → z ∈ V := by
    intro z hz b ⟨hne, _⟩;rcases hmem z hz with rfl | hz
    · exact absurd (NEnt.toRo_name x) hne
    · exact hz
  refine ⟨h.keep, fun z hz => ?_, fun z hz b hb => ?_, fun z hz z2 hz2 hne b hb => ?_, fun b hb => ?_, fun b hb => .inl (h.r0 b hb), hnd⟩
  · by_cases e : z = x.toRo
    · subst e;exact NEnt.toRo_holds (O := O x.name) (R := R) (fun b hb => .inr hb) (fun b hb => .inl hb) (h.holds x hx) _
    · have hz' := (hmem z hz).resolve_left e;have hne := hin z hz e;have hh := h.holds z hz';have e2 : (fun b => z.name ≠ x.name ∧ O z.name b) = O z.name := by funext b; simp [hne]
      rw [e2];exact NEnt.holds_keep (fun _ _ => rfl) (fun b hb => ⟨.inl hb, rfl⟩) hh
  · have hz' := hown z hz b hb;obtain ⟨h1, h2, h3⟩ := h.own z hz' b hb.2;refine ⟨h1, h2, fun hr => hr.elim h3 (fun hox => h.apart z hz' x hx hb.1 b ⟨hb.2, hox⟩)⟩
  · exact h.apart z (hown z hz b hb.1) z2 (hown z2 hz2 b hb.2) hne b ⟨hb.1.2, hb.2.2⟩
  · rcases hb with hb | hb
    · exact h.ro b hb
    · obtain ⟨h1, h2, _⟩ := h.own x hx b hb;exact ⟨h1, h2.elim .inl fun h => .inr (.inr h)⟩
end
section
variable {P : Program} {c : Ctx} {sz : Fm} {Q : Exit → Act → World → Prop} {t : List Item} {s s' : List (Nat × AV)} {V V' : List NEnt} {ops : Array Oper} {rest : List Oper} {o : Oper}
theorem TC.freeze (k : Nat) {x : NEnt} (hk : V[k]? = some x) (h : TC P c sz Q t s (V.set k x.toRo)) : TC P c sz Q t s V :=
  fun env tm W O R hf hst => h env tm W _ _ hf (hst.freeze k hk)
theorem TL.freeze (k : Nat) {x : NEnt} (hk : V[k]? = some x) (h : TL P c sz Q ops rest t s (V.set k x.toRo)) : TL P c sz Q ops rest t s V :=
  fun env tm W O R hf hst => h env tm W _ _ hf (hst.freeze k hk)
end
section
variable {P : Program} {c : Ctx} {sz : Fm} {Q : Exit → Act → World → Prop} {t : List Item} {s s' : List (Nat × AV)} {V V' : List NEnt} {ops : Array Oper} {rest : List Oper} {o : Oper}
theorem St.addRo {env : Env} {W : World} {O : Nat → Nat → Prop} {R : Nat → Prop} (h : St c env V W O R) {x : NEnt} {v : Value} (hf : hasV x.name V = false) (hh : ∀ O, x.holds (setEnv env x.name v) W O R) :
    St c (setEnv env x.name v) (x :: V) W (fun n b => n ≠ x.name ∧ O n b) R := by
  have hne : ∀ y ∈ V, y.name ≠ x.name := fun y hy e => by
    have := mem_has hy (NEnt.has_name y);rw [e, hf] at this; cases this
  refine ⟨h.keep, fun y hy => ?_, fun y hy b hb => ?_, fun y hy z hz hn b hb => ?_, h.ro, h.r0, ?_⟩
  · rcases List.mem_cons.1 hy with rfl | hy
    · exact hh _
    · have e2 : (fun b => y.name ≠ x.name ∧ O y.name b) = O y.name := by funext b; simp [hne y hy]
      rw [e2];exact NEnt.holds_congr (fun n hn => (setEnv_other fun e => by subst e; rw [mem_has hy hn] at hf; cases hf).symm) (h.holds y hy)
  · rcases List.mem_cons.1 hy with rfl | hy
    · exact absurd rfl hb.1
    · exact h.own y hy b hb.2
  · rcases List.mem_cons.1 hy with rfl | hy
    · exact hb.1.1 rfl
    · rcases List.mem_cons.1 hz with rfl | hz
      · exact hb.2.1 rfl
      · exact h.apart y hy z hz hn b ⟨hb.1.2, hb.2.2⟩
  · simp only [List.map_cons, List.nodup_cons];exact ⟨fun hm => by obtain ⟨y, hy, e⟩ := List.mem_map.1 hm; exact hne y hy e, h.names⟩
end
end Go.Proofs.Ythgbjhglhejalaa.Sy
end
