/- LawPulseAgain: texts joined into one: SymA, SymB, SymC, SymD, SymE, SymF, SymG, SymH, SymI, SymJ, SymK, SymO, PulsePlain, Base, PulseRef. -/
import Derived.WalkKit
import Derived.Laws.OwnMore
import Derived.StillTail
import Derived.OpenShut
import Derived.Deep.SlicePairs
import Derived.Below
import Derived.Test.YtpjlihkpnhamlaaProg
import Derived.BigGuardPart
import Derived.Lib.Hide
import Derived.Deep.QuietTactic
import Derived.BigQuiet
import Derived.RangeFuncNested
import Derived.Shelf.Abstract

/- A small logic of symbolic states for walks: named blocks, rows read as data, operations by local specifications. -/
section
set_option linter.unusedSimpArgs false
set_option linter.unusedVariables false
namespace Go.Proofs.Ytpjlihkpnhamlaa.Sy
open Go.RowKit

/-- what the names of a state stand for -/
abbrev Env := Nat → Value

/-- a symbolic value -/
inductive AV where
  | val (v : Value)
  | ref (n : Nat)
  | ptr (n off : Nat)
  | cell (n k : Nat)
  | agg (cs : List AV)
  | tup (cs : List AV)
  | fn (f : Nat) (first caps : List AV)

def blockOff (v : Value) (off : Nat) : Value := match v with
  | .pointer (some a) => .pointer (some ⟨a.block, off, none⟩)
  | _ => .bool false
def cellAt (v : Value) (k : Nat) : Value := match v with
  | .slice (some a) _ _ => .pointer (some (a.add k))
  | _ => .bool false
def oneOf (v : Value) : Value := match v with
  | .agg _ => .bool false
  | .tuple _ => .bool false
  | v => v

mutual
def AV.den (e : Env) : AV → Value
  | .val v => v
  | .ref n => oneOf (e n)
  | .ptr n off => blockOff (e n) off
  | .cell n k => cellAt (e n) k
  | .agg cs => .agg (AV.denL e cs).toArray
  | .tup cs => .tuple (AV.denL e cs).toArray
  | .fn f first caps => .func (.func f) (AV.denL e first).toArray (AV.denL e caps).toArray
def AV.denL (e : Env) : List AV → List Value
  | [] => []
  | a :: l => a.den e :: AV.denL e l
end
theorem AV.denL_map (e : Env) (l : List AV) : AV.denL e l = l.map (AV.den e) := by
  induction l with
  | nil => rfl
  | cons a l ih => simp [AV.denL, ih]

mutual
def AV.has (n : Nat) : AV → Bool
  | .val _ => false
  | .ref m => m == n
  | .ptr m _ => m == n
  | .cell m _ => m == n
  | .agg cs => AV.hasL n cs
  | .tup cs => AV.hasL n cs
  | .fn _ first caps => AV.hasL n first || AV.hasL n caps
def AV.hasL (n : Nat) : List AV → Bool
  | [] => false
  | a :: l => a.has n || AV.hasL n l
end
mutual
theorem AV.den_congr {e e' : Env} : ∀ (a : AV), (∀ n, a.has n = true → e n = e' n) → a.den e = a.den e'
  | .val _, _ => rfl
  | .ref m, h => by simp [AV.den, h m (by simp [AV.has])]
  | .ptr m _, h => by simp [AV.den, h m (by simp [AV.has])]
  | .cell m _, h => by simp [AV.den, h m (by simp [AV.has])]
  | .agg cs, h => by simp only [AV.den, AV.denL_congr cs (fun n hn => h n (by simp [AV.has, hn]))]
  | .tup cs, h => by simp only [AV.den, AV.denL_congr cs (fun n hn => h n (by simp [AV.has, hn]))]
  | .fn f a b, h => by simp only [AV.den, AV.denL_congr a (fun n hn => h n (by simp [AV.has, hn])), AV.denL_congr b (fun n hn => h n (by simp [AV.has, hn]))]
theorem AV.denL_congr {e e' : Env} : ∀ (l : List AV), (∀ n, AV.hasL n l = true → e n = e' n) → AV.denL e l = AV.denL e' l
  | [], _ => rfl
  | a :: l, h => by
    simp only [AV.denL]
    rw [AV.den_congr a (fun n hn => h n (by simp [AV.hasL, hn])), AV.denL_congr l (fun n hn => h n (by simp [AV.hasL, hn]))]
end
mutual
def AV.ren (p : Nat → Nat) : AV → AV
  | .val v => .val v
  | .ref m => .ref (p m)
  | .ptr m o => .ptr (p m) o
  | .cell m o => .cell (p m) o
  | .agg cs => .agg (AV.renL p cs)
  | .tup cs => .tup (AV.renL p cs)
  | .fn f a b => .fn f (AV.renL p a) (AV.renL p b)
def AV.renL (p : Nat → Nat) : List AV → List AV
  | [] => []
  | a :: l => a.ren p :: AV.renL p l
end
mutual
theorem AV.den_ren (e : Env) (p : Nat → Nat) : ∀ (a : AV), (a.ren p).den e = a.den (fun n => e (p n))
  | .val _ => rfl
  | .ref m => rfl
  | .ptr m _ => rfl
  | .cell m _ => rfl
  | .agg cs => by simp only [AV.ren, AV.den, AV.denL_ren e p cs]
  | .tup cs => by simp only [AV.ren, AV.den, AV.denL_ren e p cs]
  | .fn f a b => by simp only [AV.ren, AV.den, AV.denL_ren e p a, AV.denL_ren e p b]
theorem AV.denL_ren (e : Env) (p : Nat → Nat) : ∀ (l : List AV), AV.denL e (AV.renL p l) = AV.denL (fun n => e (p n)) l
  | [] => rfl
  | a :: l => by simp only [AV.renL, AV.denL, AV.den_ren e p a, AV.denL_ren e p l]
end

/-- what one cell holds, as_ data; what it says stays true while the blocks that it looks at (R) stay as_ they are -/
structure D where
  ok : World → (Nat → Prop) → Value → Prop
  mono : ∀ W W' (R R' : Nat → Prop), (∀ b, R b → R' b ∧ W'.heap[b]? = W.heap[b]?) → ∀ v, ok W R v → ok W' R' v

def D.v (x : Value) : D := ⟨fun _ _ v => v = x, fun _ _ _ _ _ _ h => h⟩

/-- a slice value that reads as_ elements, each some cells -/
def reads (size : Nat) (els : List (List D)) (W : World) (R : Nat → Prop) (v : Value) : Prop :=
  ∃ a cap, v = .slice a els.length cap ∧ els.length ≤ cap ∧ cap ≤ maxLen ∧ (a = none → cap = 0) ∧
    ∀ i el, els[i]? = some el → el.length = size ∧ ∀ j d, el[j]? = some d → ∃ b o, a = some ⟨b, o, none⟩ ∧ R b ∧ ∃ u : Value, W.cell? ⟨b, o + (i * size + j), none⟩ = some u ∧ d.ok W R u ∧ u.oneCell' = true
theorem reads_mono {size : Nat} {els : List (List D)} {W W' : World} {R R' : Nat → Prop} (hm : ∀ b, R b → R' b ∧ W'.heap[b]? = W.heap[b]?) {v : Value}
    (h : reads size els W R v) : reads size els W' R' v := by
  obtain ⟨a, cap, h1, h2, h3, h4, h5⟩ := h
  refine ⟨a, cap, h1, h2, h3, h4, fun i el hi => ⟨(h5 i el hi).1, fun j d hj => ?_⟩⟩
  obtain ⟨b, o, ha, hb, u, hu, hd, h1⟩ := (h5 i el hi).2 j d hj
  exact ⟨b, o, ha, (hm b hb).1, u, by rw [World.cell?_of_block (w := W) (hm b hb).2]; exact hu, d.mono W W' R R' hm u hd, h1⟩
def D.s (size : Nat) (els : List (List D)) : D := ⟨reads size els, fun _ _ _ _ hm _ h => reads_mono hm h⟩

/-- a slice value of the call's own: it may grow, and be written -/
def owns (E : TypeId) (size : Nat) (els : List (List D)) (W : World) (O R : Nat → Prop) (v : Value) : Prop :=
  (∀ el ∈ els, el.length = size) ∧ ∃ cells : List Value, W.ownsRow 0 E size v els.length cells ∧ (∀ b, v.ownBlock = some b → O b) ∧
    ∀ (k : Nat) (d : D), els.flatten[k]? = some d → ∃ u : Value, cells[k]? = some u ∧ d.ok W R u ∧ u.oneCell' = true

/-- a named piece of memory -/
inductive NEnt where
  | blk (n : Nat) (cells : List AV) (T : TypeId)
  | row (n : Nat) (E : TypeId) (size : Nat) (els : List (List D))
  | ro (n : Nat) (size : Nat) (els : List (List D))
  | rob (n : Nat) (cells : List AV) (T : TypeId)
  | any (n : Nat) (d : D)
def NEnt.name : NEnt → Nat
  | .blk n _ _ => n
  | .row n _ _ _ => n
  | .ro n _ _ => n
  | .rob n _ _ => n
  | .any n _ => n
def NEnt.holds (e : Env) (W : World) (O R : Nat → Prop) : NEnt → Prop
  | .blk n cells T => ∃ b, e n = .pointer (some ⟨b, 0, none⟩) ∧ O b ∧ W.heap[b]? = some (.cells (AV.denL e cells).toArray T (0, 0))
  | .row n E size els => owns E size els W O R (e n)
  | .ro n size els => reads size els W R (e n)
  | .rob n cells T => ∃ b, e n = .pointer (some ⟨b, 0, none⟩) ∧ R b ∧ W.heap[b]? = some (.cells (AV.denL e cells).toArray T (0, 0))
  | .any n d => d.ok W R (e n)
def NEnt.has (k : Nat) : NEnt → Bool
  | .blk n cells _ => n == k || AV.hasL k cells
  | .row n _ _ _ => n == k
  | .ro n _ _ => n == k
  | .rob n cells _ => n == k || AV.hasL k cells
  | .any n _ => n == k
theorem NEnt.has_name (x : NEnt) : x.has x.name = true := by cases x <;> simp [NEnt.has, NEnt.name]
def NEnt.ren (p : Nat → Nat) : NEnt → NEnt
  | .blk n cells T => .blk (p n) (AV.renL p cells) T
  | .row n E size els => .row (p n) E size els
  | .ro n size els => .ro (p n) size els
  | .rob n cells T => .rob (p n) (AV.renL p cells) T
  | .any n d => .any (p n) d
theorem NEnt.name_ren (p : Nat → Nat) (x : NEnt) : (x.ren p).name = p x.name := by cases x <;> rfl
theorem NEnt.holds_ren (e : Env) (p : Nat → Nat) (W : World) (O R : Nat → Prop) (x : NEnt) : (x.ren p).holds e W O R ↔ x.holds (fun n => e (p n)) W O R := by
  cases x <;> simp only [NEnt.ren, NEnt.holds, AV.denL_ren]
theorem NEnt.holds_congr {e e' : Env} {W : World} {O R : Nat → Prop} {x : NEnt} (h : ∀ n, x.has n = true → e n = e' n) (hx : x.holds e W O R) : x.holds e' W O R := by
  cases x with
  | blk n cells T =>
    simp only [NEnt.holds] at hx ⊢
    rw [← h n (by simp [NEnt.has]), ← AV.denL_congr cells (fun m hm => h m (by simp [NEnt.has, hm]))]
    exact hx
  | row n E size els => simp only [NEnt.holds] at hx ⊢; rw [← h n (by simp [NEnt.has])]; exact hx
  | ro n size els => simp only [NEnt.holds] at hx ⊢; rw [← h n (by simp [NEnt.has])]; exact hx
  | rob n cells T =>
    simp only [NEnt.holds] at hx ⊢
    rw [← h n (by simp [NEnt.has]), ← AV.denL_congr cells (fun m hm => h m (by simp [NEnt.has, hm]))]
    exact hx
  | any n d => simp only [NEnt.holds] at hx ⊢; rw [← h n (by simp [NEnt.has])]; exact hx
theorem NEnt.holds_keep {e : Env} {W W' : World} {O R R' : Nat → Prop} {x : NEnt} (hO : ∀ b, O b → W'.heap[b]? = W.heap[b]?) (hR : ∀ b, R b → R' b ∧ W'.heap[b]? = W.heap[b]?)
    (hx : x.holds e W O R) : x.holds e W' O R' := by
  cases x with
  | blk n cells T =>
    obtain ⟨b, h1, h2, h3⟩ := hx
    exact ⟨b, h1, h2, (hO b h2).trans h3⟩
  | row n E size els =>
    obtain ⟨h0, cells, h1, h2, h3⟩ := hx
    refine ⟨h0, cells, ?_, h2, fun k d hk => ?_⟩
    · obtain ⟨hl, ho⟩ := h1
      refine ⟨hl, ?_⟩
      rcases ho with ho | ⟨g, cap, cur, hv, hb, hg, rest⟩
      · exact .inl ho
      · exact .inr ⟨g, cap, cur, hv, hb, (hO g (h2 g (by rw [hv]; rfl))).trans hg, rest⟩
    · obtain ⟨u, hu, hd, h1⟩ := h3 k d hk
      exact ⟨u, hu, d.mono W W' R R' hR u hd, h1⟩
  | ro n size els => exact reads_mono hR hx
  | rob n cells T =>
    obtain ⟨b, h1, h2, h3⟩ := hx
    exact ⟨b, h1, (hR b h2).1, (hR b h2).2.trans h3⟩
  | any n d => exact d.mono W W' R R' hR _ hx

/-- w' came of w; below w's size only blocks of M have turned -/
structure Keep (M : Nat → Prop) (w w' : World) : Prop where
  os : w'.os = w.os
  tape : w'.tape = w.tape
  output : w'.output = w.output
  size : w.heap.size ≤ w'.heap.size
  block : ∀ k, k < w.heap.size → ¬ M k → w'.heap[k]? = w.heap[k]?
theorem Keep.refl (M : Nat → Prop) (w : World) : Keep M w w := ⟨rfl, rfl, rfl, Nat.le_refl _, fun _ _ _ => rfl⟩
theorem Keep.trans {M : Nat → Prop} {a b c : World} {N : Nat → Prop} (h : Keep M a b) (k : Keep N b c) (hN : ∀ i, i < a.heap.size → N i → M i) : Keep M a c :=
  ⟨k.os.trans h.os, k.tape.trans h.tape, k.output.trans h.output, Nat.le_trans h.size k.size, fun i hi hm => (k.block i (Nat.lt_of_lt_of_le hi h.size) (fun x => hm (hN i hi x))).trans (h.block i hi hm)⟩
theorem Keep.below {w w' : World} (h : Keep (fun _ => False) w w') : Below w.heap.size w w' := ⟨h.os, h.tape, h.output, h.size, fun k hk => h.block k hk (fun x => x)⟩
theorem Keep.of_below {w w' : World} (h : Below w.heap.size w w') : Keep (fun _ => False) w w' := ⟨h.os, h.tape, h.output, h.size, fun k hk _ => h.block k hk⟩

/-- the setting of a call: the world at its beginning, the blocks that it may turn, those that it reads -/
structure Ctx where
  w0 : World
  M : Nat → Prop
  R0 : Nat → Prop

/-- the state of memory -/
structure St (c : Ctx) (env : Env) (V : List NEnt) (W : World) (O : Nat → Nat → Prop) (R : Nat → Prop) : Prop where
  keep : Keep c.M c.w0 W
  holds : ∀ x ∈ V, x.holds env W (O x.name) R
  own : ∀ x ∈ V, ∀ b, O x.name b → b < W.heap.size ∧ (c.w0.heap.size ≤ b ∨ c.M b) ∧ ¬ R b
  apart : ∀ x ∈ V, ∀ y ∈ V, x.name ≠ y.name → ∀ b, ¬ (O x.name b ∧ O y.name b)
  ro : ∀ b, R b → b < W.heap.size ∧ (c.w0.heap.size ≤ b ∨ c.R0 b)
  r0 : ∀ b, c.R0 b → R b
  names : (V.map NEnt.name).Nodup

/-- the slots of a frame that are known -/
def look : List (Nat × AV) → Nat → Option AV
  | [], _ => none
  | (k, a) :: l, t => if k = t then some a else look l t
def hasS (n : Nat) : List (Nat × AV) → Bool
  | [] => false
  | (_, a) :: l => a.has n || hasS n l
def hasV (n : Nat) : List NEnt → Bool
  | [] => false
  | x :: l => x.has n || hasV n l
def Fr (env : Env) (sz : Nat) (s : List (Nat × AV)) (tm : Array Value) : Prop := tm.size = sz ∧ ∀ t a, look s t = some a → tm[t]? = some (a.den env)
theorem look_has {s : List (Nat × AV)} {t : Nat} {a : AV} (h : look s t = some a) {n : Nat} (hn : a.has n = true) : hasS n s = true := by
  induction s with
  | nil => cases h
  | cons x l ih =>
    obtain ⟨k, b⟩ := x
    simp only [look] at h
    simp only [hasS, Bool.or_eq_true]
    split at h
    · cases h; exact .inl hn
    · exact .inr (ih h)
theorem mem_has {V : List NEnt} {x : NEnt} (h : x ∈ V) {n : Nat} (hn : x.has n = true) : hasV n V = true := by
  induction V with
  | nil => cases h
  | cons y l ih =>
    simp only [hasV, Bool.or_eq_true]
    cases h with
    | head => exact .inl hn
    | tail _ h => exact .inr (ih h)
theorem Fr.congr {env env' : Env} {sz : Nat} {s : List (Nat × AV)} {tm : Array Value} (h : Fr env sz s tm) (he : ∀ n, hasS n s = true → env n = env' n) : Fr env' sz s tm :=
  ⟨h.1, fun t a ha => by rw [h.2 t a ha, AV.den_congr a (fun n hn => he n (look_has ha hn))]⟩
theorem Fr.put {env : Env} {sz : Nat} {s : List (Nat × AV)} {tm : Array Value} (h : Fr env sz s tm) {d : Nat} (hd : d < sz) {a : AV} : Fr env sz ((d, a) :: s) (tm.setIfInBounds d (a.den env)) := by
  refine ⟨by simpa using h.1, fun t b hb => ?_⟩
  simp only [look] at hb
  split at hb
  · rename_i e; subst e; cases hb
    simp [Array.getElem?_setIfInBounds, h.1, hd]
  · rename_i e
    rw [Array.getElem?_setIfInBounds, if_neg e]
    exact h.2 t b hb
theorem Fr.putNone {env : Env} {sz : Nat} {s : List (Nat × AV)} {tm : Array Value} (h : Fr env sz s tm) {d : Nat} {v : Value} (hd : look s d = none) : Fr env sz s (tm.setIfInBounds d v) := by
  refine ⟨by simpa using h.1, fun t b hb => ?_⟩
  rw [Array.getElem?_setIfInBounds, if_neg (fun e => by subst e; rw [hd] at hb; cases hb)]
  exact h.2 t b hb
theorem Fr.sub {env : Env} {sz : Nat} {s s' : List (Nat × AV)} {tm : Array Value} (h : Fr env sz s tm) (hs : ∀ t a, look s' t = some a → look s t = some a) : Fr env sz s' tm :=
  ⟨h.1, fun t a ha => h.2 t a (hs t a ha)⟩

/-- the operands -/
def rho (s : List (Nat × AV)) : Operand → Option AV
  | .tmp t => look s t
  | .const v => some (.val v)
  | .global g => none
  | .func f => some (.fn f [] [])
theorem rho_eval {env : Env} {sz : Nat} {s : List (Nat × AV)} {tm : Array Value} (h : Fr env sz s tm) {x : Operand} {a : AV} (hx : rho s x = some a) : (Act.eval ⟨tm, []⟩ x) = a.den env := by
  cases x with
  | tmp t => have := h.2 t a hx; simp [Act.eval, this]
  | const v => simp only [rho, Option.some.injEq] at hx; subst hx; rfl
  | global g => cases hx
  | func f => simp only [rho, Option.some.injEq] at hx; subst hx; rfl

/-- what an operation must come to -/
def Does (P : Program) (r : Result Next) (K : Value → World → Prop) : Prop :=
  match r with
  | .ok (.value v) w => K v w
  | .ok .skip w => K undef w
  | .ok (.enter f args) w => Calls P f args w fun e w' => ∃ v, e = .returned v ∧ K v w'
  | _ => False
theorem Does.upon {P : Program} {r : Result Next} {K : Value → World → Prop} {o : Oper} {a : Act} {next : Act → World → Prop} {Q : Exit → Act → World → Prop}
    (h : Does P r K) (hk : ∀ v w, K v w → next (a.put o.dst v) w) : o.upon P a next Q r := by
  cases r with
  | ok n w =>
    cases n <;> simp only [Does] at h <;> try exact h.elim
    · exact hk _ _ h
    · exact hk _ _ h
    · exact Calls.mono h fun e w' ⟨v, he, hv⟩ => by subst he; exact hk _ _ hv
  | halt x w => exact h.elim
theorem Does.mono {P : Program} {r : Result Next} {K K' : Value → World → Prop} (h : Does P r K) (hk : ∀ v w, K v w → K' v w) : Does P r K' := by
  cases r with
  | ok n w =>
    cases n <;> simp only [Does] at h ⊢ <;> try exact h.elim
    · exact hk _ _ h
    · exact hk _ _ h
    · exact Calls.mono h fun e w' ⟨v, he, hv⟩ => ⟨v, he, hk _ _ hv⟩
  | halt x w => exact h.elim

/-- code that stands before other code -/
def Gw (P : Program) (todo : List Item) (Q : Exit → Act → World → Prop) (a : Act) (w : World) : Prop :=
  ∀ (b : Frame) (k : List Item) (cs : List Frame), ∃ e a' w', Q e a' w' ∧ Arrives P (lone (b.at a (todo ++ k)) cs w) b k cs e a' w'
section
variable {P : Program} {Q : Exit → Act → World → Prop} {a : Act} {w : World} {t : List Item}
theorem Gw.step (m : ∀ (b : Frame) (k : List Item) (cs : List Frame), ∃ t' : List Item, (step P (lone (b.at a (t ++ k)) cs w) = .next (lone (b.at a (t' ++ k)) cs w)) ∧ Gw P t' Q a w) : Gw P t Q a w := by
  intro b k cs
  obtain ⟨t', hs, hg⟩ := m b k cs
  obtain ⟨e, a', w', hq, ha⟩ := hg b k cs
  exact ⟨e, a', w', hq, .of_steps (.one hs) ha⟩
theorem Gw.nil (h : Q .normal a w) : Gw P [] Q a w := fun _ _ _ => ⟨.normal, a, w, h, Steps.refl _ _⟩
theorem Gw.skip (h : Gw P t Q a w) : Gw P (.code .skip :: t) Q a w := .step fun _ _ _ => ⟨t, step_skip, h⟩
theorem Gw.inBlock {id : Nat} (h : Gw P t Q a w) : Gw P (.inBlock id :: t) Q a w := .step fun _ _ _ => ⟨t, step_inBlock, h⟩
theorem Gw.seq {x y : Code} (h : Gw P (.code x :: .code y :: t) Q a w) : Gw P (.code (.seq x y) :: t) Q a w := .step fun _ _ _ => ⟨_, step_seq, h⟩
theorem Gw.block {id : Nat} {x : Code} (h : Gw P (.code x :: .inBlock id :: t) Q a w) : Gw P (.code (.block id x) :: t) Q a w := .step fun _ _ _ => ⟨_, step_block, h⟩
theorem Gw.inLoop {x : Code} (h : Gw P (.code x :: .inLoop x :: t) Q a w) : Gw P (.inLoop x :: t) Q a w := .step fun _ _ _ => ⟨_, step_inLoop, h⟩
theorem Gw.loop' {x : Code} (h : Gw P (.code x :: .inLoop x :: t) Q a w) : Gw P (.code (.loop x) :: t) Q a w := .step fun _ _ _ => ⟨_, step_loop, h⟩
theorem Gw.cond {c : Operand} {x y : Code} {b : Bool} (hc : a.eval c = .bool b) (ht : b = true → Gw P (.code x :: t) Q a w) (hf : b = false → Gw P (.code y :: t) Q a w) : Gw P (.code (.cond c x y) :: t) Q a w := by
  cases b
  · exact .step fun _ _ _ => ⟨.code y :: t, step_cond hc, hf rfl⟩
  · exact .step fun _ _ _ => ⟨.code x :: t, step_cond hc, ht rfl⟩
theorem Gw.ret (h : Q .ret a w) : Gw P (.code .ret :: t) Q a w := fun _ _ _ => ⟨.ret, a, w, h, _, .one step_ret⟩
theorem exitTo_append {id : Nat} {t t' : List Item} (k : List Item) (h : exitTo id t = some t') : exitTo id (t ++ k) = some (t' ++ k) := by
  induction t with
  | nil => cases h
  | cons x l ih =>
    cases x with
    | inBlock id' =>
      simp only [exitTo, List.cons_append] at h ⊢
      split at h
      · rename_i e; cases h; simp [e]
      · rename_i e; simp only [e]; exact ih h
    | _ => simp only [exitTo, List.cons_append] at h ⊢; exact ih h
theorem exitTo_none {id : Nat} {t : List Item} (k : List Item) (h : exitTo id t = none) : exitTo id (t ++ k) = exitTo id k := by
  induction t with
  | nil => rfl
  | cons x l ih =>
    cases x with
    | inBlock id' =>
      simp only [exitTo, List.cons_append] at h ⊢
      split at h
      · cases h
      · rename_i e; simp only [e]; exact ih h
    | _ => simp only [exitTo, List.cons_append] at h ⊢; exact ih h
theorem Gw.exit {id : Nat} {t' : List Item} (he : exitTo id t = some t') (h : Gw P t' Q a w) : Gw P (.code (.exit id) :: t) Q a w :=
  .step fun _ k _ => ⟨t', step_exit (exitTo_append k he), h⟩
theorem Gw.leave {id : Nat} (he : exitTo id t = none) (h : Q (.exit id) a w) : Gw P (.code (.exit id) :: t) Q a w :=
  fun _ k _ => ⟨.exit id, a, w, h, fun k' hk => .one (step_exit ((exitTo_none k he).trans hk))⟩
theorem Gw.code {c : Code} (h : c.wp P (fun e a w => e = .normal ∧ Gw P t Q a w) a w) : Gw P (.code c :: t) Q a w := by
  intro b k cs
  obtain ⟨e, a1, w1, ⟨rfl, hg⟩, ha⟩ := h b (t ++ k) cs
  obtain ⟨e, a', w', hq, ha'⟩ := hg b k cs
  exact ⟨e, a', w', hq, .of_steps ha ha'⟩
theorem Gw.wp {c : Code} (h : Gw P [.code c] Q a w) : c.wp P Q a w := h
end

section
variable (P : Program) (c : Ctx) (sz : Nat) (Q : Exit → Act → World → Prop)
/-- from every world that fits a state, the code comes to Q -/
def TC (todo : List Item) (s : List (Nat × AV)) (V : List NEnt) : Prop :=
  ∀ env tm W O R, Fr env sz s tm → St c env V W O R → Gw P todo Q ⟨tm, []⟩ W
def TL (ops : Array Oper) (l : List Oper) (t : List Item) (s : List (Nat × AV)) (V : List NEnt) : Prop :=
  ∀ env tm W O R, Fr env sz s tm → St c env V W O R → wpList P ops (fun e a w => e = .normal ∧ Gw P t Q a w) l ⟨tm, []⟩ W
end
section
variable {P : Program} {c : Ctx} {sz : Nat} {Q : Exit → Act → World → Prop} {t : List Item} {s : List (Nat × AV)} {V : List NEnt}
theorem TC.skip (h : TC P c sz Q t s V) : TC P c sz Q (.code .skip :: t) s V := fun e tm W O R hf hs => Gw.skip (h e tm W O R hf hs)
theorem TC.inBlock {id : Nat} (h : TC P c sz Q t s V) : TC P c sz Q (.inBlock id :: t) s V := fun e tm W O R hf hs => Gw.inBlock (h e tm W O R hf hs)
theorem TC.seq {x y : Code} (h : TC P c sz Q (.code x :: .code y :: t) s V) : TC P c sz Q (.code (.seq x y) :: t) s V := fun e tm W O R hf hs => Gw.seq (h e tm W O R hf hs)
theorem TC.block {id : Nat} {x : Code} (h : TC P c sz Q (.code x :: .inBlock id :: t) s V) : TC P c sz Q (.code (.block id x) :: t) s V := fun e tm W O R hf hs => Gw.block (h e tm W O R hf hs)
theorem TC.loop {x : Code} (h : TC P c sz Q (.code x :: .inLoop x :: t) s V) : TC P c sz Q (.code (.loop x) :: t) s V := fun e tm W O R hf hs => Gw.loop' (h e tm W O R hf hs)
theorem TC.inLoop {x : Code} (h : TC P c sz Q (.code x :: .inLoop x :: t) s V) : TC P c sz Q (.inLoop x :: t) s V := fun e tm W O R hf hs => Gw.inLoop (h e tm W O R hf hs)
theorem TC.cond {o : Operand} {x y : Code} {b : Bool} (hc : rho s o = some (.val (.bool b))) (ht : b = true → TC P c sz Q (.code x :: t) s V) (hf : b = false → TC P c sz Q (.code y :: t) s V) :
    TC P c sz Q (.code (.cond o x y) :: t) s V :=
  fun e tm W O R hr hs => Gw.cond (b := b) (rho_eval hr hc) (fun hb => ht hb e tm W O R hr hs) (fun hb => hf hb e tm W O R hr hs)
theorem TC.exit {id : Nat} {t' : List Item} (he : exitTo id t = some t') (h : TC P c sz Q t' s V) : TC P c sz Q (.code (.exit id) :: t) s V := fun e tm W O R hf hs => Gw.exit he (h e tm W O R hf hs)
theorem TC.region {id : Nat} {l : List Oper} (h : TL P c sz Q l.toArray l t s V) : TC P c sz Q (.code (.region id l.toArray false) :: t) s V :=
  fun e tm W O R hf hs => Gw.code (wp_region_lit (h e tm W O R hf hs))
theorem TL.nil {ops : Array Oper} (h : TC P c sz Q t s V) : TL P c sz Q ops [] t s V := fun e tm W O R hf hs => ⟨rfl, h e tm W O R hf hs⟩
end

theorem oneOf_one (v : Value) : (oneOf v).oneCell' = true := by cases v <;> rfl
theorem oneOf_slice (a : Option Addr) (n k : Nat) : oneOf (.slice a n k) = .slice a n k := rfl
theorem blockOff_one (v : Value) (o : Nat) : (blockOff v o).oneCell' = true := by unfold blockOff; split <;> rfl
theorem cellAt_one (v : Value) (o : Nat) : (cellAt v o).oneCell' = true := by unfold cellAt; split <;> rfl
/-- a symbolic value of one cell -/
def AV.one : AV → Bool
  | .val v => v.oneCell'
  | .agg _ => false
  | .tup _ => false
  | _ => true
theorem AV.den_one {a : AV} (h : a.one = true) (e : Env) : (a.den e).oneCell' = true := by
  cases a <;> first | exact h | exact oneOf_one _ | exact blockOff_one _ _ | exact cellAt_one _ _ | rfl | cases h
theorem cells_one {v : Value} (h : v.oneCell' = true) : v.cells = #[v] := by cases v <;> first | rfl | cases h
/-- the cells of a symbolic value -/
def AV.cs : AV → List AV
  | .agg cs => cs
  | .tup cs => [.tup cs]
  | a => [a]
def AV.flat : AV → Bool
  | .agg cs => cs.all AV.one
  | a => a.one
theorem AV.den_cells {a : AV} (h : a.flat = true) (e : Env) : (a.den e).cells = (AV.denL e a.cs).toArray := by
  cases a with
  | agg cs => rfl
  | tup cs => cases h
  | val v => rw [cells_one (AV.den_one (a := .val v) h e)]; rfl
  | ref v => rw [cells_one (AV.den_one (a := .ref v) h e)]; rfl
  | ptr n o => rw [cells_one (AV.den_one (a := .ptr n o) h e)]; rfl
  | cell n o => rw [cells_one (AV.den_one (a := .cell n o) h e)]; rfl
  | fn f x y => rw [cells_one (AV.den_one (a := .fn f x y) h e)]; rfl
theorem denL_length (e : Env) (l : List AV) : (AV.denL e l).length = l.length := by rw [AV.denL_map]; simp
theorem denL_get {e : Env} {l : List AV} {i : Nat} {a : AV} (h : l[i]? = some a) : (AV.denL e l)[i]? = some (a.den e) := by rw [AV.denL_map]; simp [h]
theorem denL_one {e : Env} {l : List AV} (h : l.all AV.one = true) : ∀ v ∈ AV.denL e l, v.oneCell' = true := by
  rw [AV.denL_map]
  intro v hv
  obtain ⟨a, ha, rfl⟩ := List.mem_map.1 hv
  exact AV.den_one (List.all_eq_true.1 h a ha) e
theorem cs_all_one {a : AV} (h : a.flat = true) : a.cs.all AV.one = true := by
  cases a <;> first | exact h | (simp only [AV.cs, List.all_cons, List.all_nil, Bool.and_true]; exact h) | cases h
theorem denL_append (e : Env) (l m : List AV) : AV.denL e (l ++ m) = AV.denL e l ++ AV.denL e m := by simp [AV.denL_map]
theorem denL_take (e : Env) (l : List AV) (k : Nat) : AV.denL e (l.take k) = (AV.denL e l).take k := by simp [AV.denL_map]
theorem denL_drop (e : Env) (l : List AV) (k : Nat) : AV.denL e (l.drop k) = (AV.denL e l).drop k := by simp [AV.denL_map]

/-- a local specification of an operation -/
def Got (c : Ctx) (env : Env) (v : AV) (news : List NEnt) (u : Value) (W' : World) : Prop :=
  ∃ env' O' R', (∀ n, (∀ x ∈ news, x.name ≠ n) → env' n = env n) ∧ u = v.den env' ∧ St c env' news W' O' R'
def OpSpec (P : Program) (o : Oper) (ρ : Operand → Option AV) (need : List NEnt) (v : AV) (news : List NEnt) : Prop :=
  ∀ (ev : Operand → Value) (env : Env) (W : World) (O : Nat → Nat → Prop) (R : Nat → Prop),
    (∀ x a, ρ x = some a → ev x = a.den env) → (∀ x ∈ need, x.holds env W (O x.name) R) → (∀ x ∈ need, ∀ b, O x.name b → b < W.heap.size) → (∀ b, R b → b < W.heap.size) →
    Does P ((execOp ev o).run P W) (Got ⟨W, fun _ => False, R⟩ env v news)

theorem St.refl0 (W : World) (M R : Nat → Prop) (env : Env) (hR : ∀ b, R b → b < W.heap.size) : St ⟨W, M, R⟩ env [] W (fun _ _ => False) R :=
  ⟨Keep.refl _ _, by simp, by simp, by simp, fun b h => ⟨hR b h, .inr h⟩, fun _ h => h, by simp⟩
theorem OpSpec.pure {P : Program} {o : Oper} {ρ : Operand → Option AV} {need : List NEnt} {v : AV}
    (h : ∀ (ev : Operand → Value) (env : Env) (W : World) (O : Nat → Nat → Prop) (R : Nat → Prop), (∀ x a, ρ x = some a → ev x = a.den env) → (∀ x ∈ need, x.holds env W (O x.name) R) →
      (execOp ev o).run P W = .ok (.value (v.den env)) W) : OpSpec P o ρ need v [] := by
  intro ev env W O R he hn hO hR
  rw [h ev env W O R he hn]
  exact ⟨env, _, R, fun _ _ => rfl, rfl, St.refl0 W _ R env hR⟩

def freshN (news : List NEnt) (s : List (Nat × AV)) (V : List NEnt) : Bool := news.all fun x => !hasS x.name s && !hasV x.name V

/-- the state behind an operation -/
theorem St.next {c : Ctx} {env env' : Env} {V news : List NEnt} {W W' : World} {O O' : Nat → Nat → Prop} {R R' : Nat → Prop} (h : St c env V W O R)
    (hg : St ⟨W, fun _ => False, R⟩ env' news W' O' R') (he : ∀ n, (∀ x ∈ news, x.name ≠ n) → env' n = env n) (hf : ∀ x ∈ news, hasV x.name V = false) :
    ∃ O2, St c env' (news ++ V) W' O2 R' ∧ (∀ n, hasV n V = true → env' n = env n) := by
  have hnv : ∀ x ∈ news, ∀ y ∈ V, x.name ≠ y.name := by
    intro x hx y hy e
    have := hf x hx
    rw [mem_has hy (by rw [e]; exact NEnt.has_name y)] at this
    cases this
  have hev : ∀ n, hasV n V = true → env' n = env n := fun n hn => he n fun x hx e => by subst e; rw [hf x hx] at hn; cases hn
  classical
  refine ⟨fun n b => if (∃ x ∈ news, x.name = n) then O' n b else O n b, ⟨h.keep.trans hg.keep (fun _ _ x => x.elim), ?_, ?_, ?_, ?_, ?_, ?_⟩, hev⟩
  · intro x hx
    rcases List.mem_append.1 hx with hx | hx
    · have : ∃ y ∈ news, y.name = x.name := ⟨x, hx, rfl⟩
      simpa only [this, if_true] using hg.holds x hx
    · have hno : ¬ ∃ y ∈ news, y.name = x.name := fun ⟨y, hy, e⟩ => hnv y hy x hx e
      simp only [hno, if_false]
      refine NEnt.holds_congr (fun n hn => (hev n (mem_has hx hn)).symm) (NEnt.holds_keep (fun b hb => ?_) (fun b hb => ?_) (h.holds x hx))
      · exact hg.keep.block b (h.own x hx b hb).1 (fun x => x)
      · exact ⟨hg.r0 b hb, hg.keep.block b (h.ro b hb).1 (fun x => x)⟩
  · intro x hx b hb
    rcases List.mem_append.1 hx with hx | hx
    · have : ∃ y ∈ news, y.name = x.name := ⟨x, hx, rfl⟩
      simp only [this, if_true] at hb
      obtain ⟨h1, h2, h3⟩ := hg.own x hx b hb
      refine ⟨h1, .inl ?_, h3⟩
      rcases h2 with h2 | h2
      · exact Nat.le_trans h.keep.size h2
      · exact h2.elim
    · have hno : ¬ ∃ y ∈ news, y.name = x.name := fun ⟨y, hy, e⟩ => hnv y hy x hx e
      simp only [hno, if_false] at hb
      obtain ⟨h1, h2, h3⟩ := h.own x hx b hb
      refine ⟨Nat.lt_of_lt_of_le h1 hg.keep.size, h2, fun hr => ?_⟩
      rcases (hg.ro b hr).2 with h4 | h4
      · have : W.heap.size ≤ b := h4; omega
      · exact h3 h4
  · intro x hx y hy hne b ⟨h1, h2⟩
    by_cases ex : ∃ z ∈ news, z.name = x.name <;> by_cases ey : ∃ z ∈ news, z.name = y.name <;> simp only [ex, ey, if_true, if_false] at h1 h2
    · obtain ⟨x', hx', e1⟩ := ex; obtain ⟨y', hy', e2⟩ := ey
      rw [← e1] at h1; rw [← e2] at h2
      exact hg.apart x' hx' y' hy' (by rw [e1, e2]; exact hne) b ⟨h1, h2⟩
    · obtain ⟨x', hx', e1⟩ := ex
      have hyV : y ∈ V := (List.mem_append.1 hy).resolve_left fun h => ey ⟨y, h, rfl⟩
      rw [← e1] at h1
      have := (hg.own x' hx' b h1).2.1
      have h3 := (h.own y hyV b h2).1
      rcases this with h4 | h4
      · have : W.heap.size ≤ b := h4; omega
      · exact h4
    · obtain ⟨y', hy', e2⟩ := ey
      have hxV : x ∈ V := (List.mem_append.1 hx).resolve_left fun h => ex ⟨x, h, rfl⟩
      rw [← e2] at h2
      have := (hg.own y' hy' b h2).2.1
      have h3 := (h.own x hxV b h1).1
      rcases this with h4 | h4
      · have : W.heap.size ≤ b := h4; omega
      · exact h4
    · have hxV : x ∈ V := (List.mem_append.1 hx).resolve_left fun h => ex ⟨x, h, rfl⟩
      have hyV : y ∈ V := (List.mem_append.1 hy).resolve_left fun h => ey ⟨y, h, rfl⟩
      exact h.apart x hxV y hyV hne b ⟨h1, h2⟩
  · intro b hb
    obtain ⟨h1, h2⟩ := hg.ro b hb
    refine ⟨h1, ?_⟩
    rcases h2 with h2 | h2
    · exact .inl (Nat.le_trans h.keep.size h2)
    · exact (h.ro b h2).2
  · intro b hb
    exact hg.r0 b (h.r0 b hb)
  · rw [List.map_append, List.nodup_append]
    refine ⟨hg.names, h.names, fun a ha b hb e => ?_⟩
    obtain ⟨x, hx, rfl⟩ := List.mem_map.1 ha
    obtain ⟨y, hy, rfl⟩ := List.mem_map.1 hb
    exact hnv x hx y hy e

def Wanted (ops : Array Oper) (s : List (Nat × AV)) (o : Oper) : Prop :=
  match o.guard with
  | none => True
  | some (j, want) => ∃ d, (ops[j]?).bind (·.dst) = some d ∧ look s d = some (.val (.bool want))
def Unwanted (ops : Array Oper) (s : List (Nat × AV)) (o : Oper) : Prop :=
  match o.guard with
  | none => False
  | some (j, want) => ∃ d, (ops[j]?).bind (·.dst) = some d ∧ (look s d = some (.val (.bool (!want))) ∨ look s d = some (.val undef))
theorem wanted_of {ops : Array Oper} {s : List (Nat × AV)} {o : Oper} {env : Env} {sz : Nat} {tm : Array Value} (hf : Fr env sz s tm) (h : Wanted ops s o) : Region.wanted o (yielded ops tm) = true := by
  unfold Wanted at h; unfold Region.wanted
  split at h <;> rename_i hg <;> simp only [hg]
  obtain ⟨d, h1, h2⟩ := h
  have := hf.2 d _ h2
  simp [yielded, h1, this, AV.den]
theorem unwanted_of {ops : Array Oper} {s : List (Nat × AV)} {o : Oper} {env : Env} {sz : Nat} {tm : Array Value} (hf : Fr env sz s tm) (h : Unwanted ops s o) : Region.wanted o (yielded ops tm) = false := by
  unfold Unwanted at h; unfold Region.wanted
  split at h <;> rename_i hg <;> simp only [hg]
  · exact h.elim
  · obtain ⟨d, h1, h2 | h2⟩ := h
    · have := hf.2 d _ h2
      simp [yielded, h1, this, AV.den]
    · have := hf.2 d _ h2
      simp [yielded, h1, this, AV.den, undef]

section
variable {P : Program} {c : Ctx} {sz : Nat} {Q : Exit → Act → World → Prop} {t : List Item} {s : List (Nat × AV)} {V : List NEnt} {ops : Array Oper} {rest : List Oper} {o : Oper}
theorem TL.op (need : List NEnt) {v : AV} {news : List NEnt} {d : Nat} (hs : OpSpec P o (rho s) need v news) (hd : o.dst = some d) (hw : Wanted ops s o) (hlt : d < sz) (hn : ∀ x ∈ need, x ∈ V) (hf : freshN news s V = true)
    (k : TL P c sz Q ops rest t ((d, v) :: s) (news ++ V)) : TL P c sz Q ops (o :: rest) t s V := by
  intro env tm W O R hfr hst
  have hf' : ∀ x ∈ news, hasS x.name s = false ∧ hasV x.name V = false := by simpa [freshN] using hf
  unfold wpList
  rw [if_pos (wanted_of hfr hw)]
  refine .inl ((hs _ env W O R (fun x a hx => rho_eval hfr hx) (fun x hx => hst.holds x (hn x hx)) (fun x hx b hb => (hst.own x (hn x hx) b hb).1) (fun b hb => (hst.ro b hb).1)).upon ?_)
  rintro u W' ⟨env', O', R', he, rfl, hg⟩
  obtain ⟨O2, h2, hev⟩ := hst.next hg he (fun x hx => (hf' x hx).2)
  have hfr' : Fr env' sz s tm := hfr.congr fun n hn => (he n fun x hx e => by subst e; rw [(hf' x hx).1] at hn; cases hn).symm
  have := k env' _ W' O2 R' (hfr'.put hlt) h2
  rw [hd]
  exact this
theorem TL.skipG {d : Nat} (hd : o.dst = some d) (hw : Unwanted ops s o) (hlt : d < sz) (k : TL P c sz Q ops rest t ((d, .val undef) :: s) V) : TL P c sz Q ops (o :: rest) t s V := by
  intro env tm W O R hfr hst
  unfold wpList
  rw [if_neg (by rw [unwanted_of hfr hw]; simp)]
  have := k env _ W O R (hfr.put hlt) hst
  rw [hd]
  exact this
end

/-- an integer that a kind holds -/
def fits (k : IntKind) (z : Int) : Bool := decide (k.wrap z = z)
def in64 (z : Int) : Bool := decide (-9223372036854775808 ≤ z) && decide (z ≤ 9223372036854775807)
theorem in64_iff {z : Int} : in64 z = true ↔ -9223372036854775808 ≤ z ∧ z ≤ 9223372036854775807 := by simp [in64]
theorem wrap_in64 {z : Int} (h : in64 z = true) : IntKind.i64.wrap z = z := IntWalk.i64_in z (in64_iff.1 h)
def inK : IntKind → Int → Bool
  | .i64, z => in64 z
  | k, z => fits k z
theorem wrap_inK {k : IntKind} {z : Int} (h : inK k z = true) : k.wrap z = z := by
  cases k <;> first | exact wrap_in64 h | exact of_decide_eq_true h
section
variable {P : Program} {o : Oper} {ρ : Operand → Option AV}
theorem sp_move {x : Operand} {a : AV} (ho : o.op = .move x) (hx : ρ x = some a) : OpSpec P o ρ [] a [] :=
  .pure fun ev env W O R he _ => by simp [execOp, ho, he x a hx]
theorem sp_assign {x : Operand} {a : AV} (ho : o.op = .assign x) (hx : ρ x = some a) : OpSpec P o ρ [] a [] :=
  .pure fun ev env W O R he _ => by simp [execOp, ho, he x a hx]
theorem sp_pickT {c x y : Operand} {a : AV} (ho : o.op = .pick c x y) (hc : ρ c = some (.val (.bool true))) (hx : ρ x = some a) : OpSpec P o ρ [] a [] :=
  .pure fun ev env W O R he _ => by simp [execOp, ho, he x a hx, he c _ hc, AV.den, asBool]
theorem sp_pickF {c x y : Operand} {a : AV} (ho : o.op = .pick c x y) (hc : ρ c = some (.val (.bool false))) (hx : ρ y = some a) : OpSpec P o ρ [] a [] :=
  .pure fun ev env W O R he _ => by simp [execOp, ho, he y a hx, he c _ hc, AV.den, asBool]
theorem sp_add {x y : Operand} {T U : TypeId} {k : IntKind} {m n : Int} (ho : o.op = .binOp .add T x y U) (hx : ρ x = some (.val (.int k m))) (hy : ρ y = some (.val (.int k n))) (hz : inK k (m + n) = true) :
    OpSpec P o ρ [] (.val (.int k (m + n))) [] :=
  .pure fun ev env W O R he _ => by simp [execOp, ho, he x _ hx, he y _ hy, AV.den, eqGuard, binOp, Op.intArith, wrap_inK hz]
theorem sp_sub {x y : Operand} {T U : TypeId} {k : IntKind} {m n : Int} (ho : o.op = .binOp .sub T x y U) (hx : ρ x = some (.val (.int k m))) (hy : ρ y = some (.val (.int k n))) (hz : inK k (m - n) = true) :
    OpSpec P o ρ [] (.val (.int k (m - n))) [] :=
  .pure fun ev env W O R he _ => by simp [execOp, ho, he x _ hx, he y _ hy, AV.den, eqGuard, binOp, Op.intArith, wrap_inK hz]
theorem sp_mul {x y : Operand} {T U : TypeId} {k : IntKind} {m n : Int} (ho : o.op = .binOp .mul T x y U) (hx : ρ x = some (.val (.int k m))) (hy : ρ y = some (.val (.int k n))) (hz : inK k (m * n) = true) :
    OpSpec P o ρ [] (.val (.int k (m * n))) [] :=
  .pure fun ev env W O R he _ => by simp [execOp, ho, he x _ hx, he y _ hy, AV.den, eqGuard, binOp, Op.intArith, wrap_inK hz]
theorem sp_quo {x y : Operand} {T U : TypeId} {k : IntKind} {m n : Int} (ho : o.op = .binOp .quo T x y U) (hx : ρ x = some (.val (.int k m))) (hy : ρ y = some (.val (.int k n))) (h0 : (n != 0) = true) (hz : inK k (m.tdiv n) = true) :
    OpSpec P o ρ [] (.val (.int k (m.tdiv n))) [] :=
  .pure fun ev env W O R he _ => by
    have h0' : n ≠ 0 := by simpa using h0
    simp [execOp, ho, he x _ hx, he y _ hy, AV.den, eqGuard, binOp, Op.intDiv, h0', wrap_inK hz]
theorem sp_rem {x y : Operand} {T U : TypeId} {k : IntKind} {m n : Int} (ho : o.op = .binOp .rem T x y U) (hx : ρ x = some (.val (.int k m))) (hy : ρ y = some (.val (.int k n))) (h0 : (n != 0) = true) :
    OpSpec P o ρ [] (.val (.int k (m.tmod n))) [] :=
  .pure fun ev env W O R he _ => by
    have h0' : n ≠ 0 := by simpa using h0
    simp [execOp, ho, he x _ hx, he y _ hy, AV.den, eqGuard, binOp, Op.intDiv, h0']
theorem sp_lss {x y : Operand} {T U : TypeId} {k : IntKind} {m n : Int} (ho : o.op = .binOp .lss T x y U) (hx : ρ x = some (.val (.int k m))) (hy : ρ y = some (.val (.int k n))) :
    OpSpec P o ρ [] (.val (.bool (decide (m < n)))) [] :=
  .pure fun ev env W O R he _ => by simp [execOp, ho, he x _ hx, he y _ hy, AV.den, eqGuard, binOp, Op.intCmp]
theorem sp_leq {x y : Operand} {T U : TypeId} {k : IntKind} {m n : Int} (ho : o.op = .binOp .leq T x y U) (hx : ρ x = some (.val (.int k m))) (hy : ρ y = some (.val (.int k n))) :
    OpSpec P o ρ [] (.val (.bool (decide (m ≤ n)))) [] :=
  .pure fun ev env W O R he _ => by simp [execOp, ho, he x _ hx, he y _ hy, AV.den, eqGuard, binOp, Op.intCmp]
theorem sp_gtr {x y : Operand} {T U : TypeId} {k : IntKind} {m n : Int} (ho : o.op = .binOp .gtr T x y U) (hx : ρ x = some (.val (.int k m))) (hy : ρ y = some (.val (.int k n))) :
    OpSpec P o ρ [] (.val (.bool (decide (n < m)))) [] :=
  .pure fun ev env W O R he _ => by simp [execOp, ho, he x _ hx, he y _ hy, AV.den, eqGuard, binOp, Op.intCmp]
theorem sp_geq {x y : Operand} {T U : TypeId} {k : IntKind} {m n : Int} (ho : o.op = .binOp .geq T x y U) (hx : ρ x = some (.val (.int k m))) (hy : ρ y = some (.val (.int k n))) :
    OpSpec P o ρ [] (.val (.bool (decide (n ≤ m)))) [] :=
  .pure fun ev env W O R he _ => by simp [execOp, ho, he x _ hx, he y _ hy, AV.den, eqGuard, binOp, Op.intCmp]
theorem sp_eql {x y : Operand} {T U : TypeId} {k : IntKind} {m n : Int} (ho : o.op = .binOp .eql T x y U) (hx : ρ x = some (.val (.int k m))) (hy : ρ y = some (.val (.int k n))) :
    OpSpec P o ρ [] (.val (.bool (m == n))) [] :=
  .pure fun ev env W O R he _ => by simp [execOp, ho, he x _ hx, he y _ hy, AV.den, eqGuard, binOp, Op.intCmp]
theorem sp_neq {x y : Operand} {T U : TypeId} {k : IntKind} {m n : Int} (ho : o.op = .binOp .neq T x y U) (hx : ρ x = some (.val (.int k m))) (hy : ρ y = some (.val (.int k n))) :
    OpSpec P o ρ [] (.val (.bool (m != n))) [] :=
  .pure fun ev env W O R he _ => by simp [execOp, ho, he x _ hx, he y _ hy, AV.den, eqGuard, binOp, Op.intCmp]
theorem run_eqB {P : Program} {T : TypeId} (hT : P.underlying T = some .bool) (m n : Bool) (w : World) : (binOp .eql T (.bool m) (.bool n)).run P w = .ok (.bool (m == n)) w ∧ (binOp .neq T (.bool m) (.bool n)).run P w = .ok (.bool (m != n)) w := by
  have h := run_equal_bool (P := P) w T m n hT
  constructor <;> simp [binOp, h, bne]
theorem sp_eqlB {x y : Operand} {T U : TypeId} {m n : Bool} (ho : o.op = .binOp .eql T x y U) (hT : P.underlying T = some .bool) (hx : ρ x = some (.val (.bool m))) (hy : ρ y = some (.val (.bool n))) :
    OpSpec P o ρ [] (.val (.bool (m == n))) [] :=
  .pure fun ev env W O R he _ => by
    have h := (run_eqB hT m n W).1
    simp [execOp, ho, he x _ hx, he y _ hy, AV.den, eqGuard, h]
theorem sp_neqB {x y : Operand} {T U : TypeId} {m n : Bool} (ho : o.op = .binOp .neq T x y U) (hT : P.underlying T = some .bool) (hx : ρ x = some (.val (.bool m))) (hy : ρ y = some (.val (.bool n))) :
    OpSpec P o ρ [] (.val (.bool (m != n))) [] :=
  .pure fun ev env W O R he _ => by
    have h := (run_eqB hT m n W).2
    simp [execOp, ho, he x _ hx, he y _ hy, AV.den, eqGuard, h]
/-- structs of plain cells are compared cell by cell -/
def EqT (P : Program) (T : TypeId) (xs ys : List Value) (b : Bool) : Prop := P.eqGuardType P.depth T = false ∧ ∀ w, (Op.equalIn 10000 T (.agg xs.toArray) (.agg ys.toArray)).run P w = .ok b w
theorem sp_eqlS {x y : Operand} {T U : TypeId} {xs ys : List AV} {us vs : List Value} {b : Bool} (ho : o.op = .binOp .eql T x y U) (hx : ρ x = some (.agg xs)) (hy : ρ y = some (.agg ys)) (hu : xs = us.map .val) (hv : ys = vs.map .val) (hq : EqT P T us vs b) :
    OpSpec P o ρ [] (.val (.bool b)) [] :=
  .pure fun ev env W O R he _ => by
    have d : ∀ l : List Value, AV.denL env (l.map .val) = l := fun l => by rw [AV.denL_map, List.map_map]; exact List.map_id'' (fun _ => rfl) l
    subst hu; subst hv
    simp only [execOp, ho, he x _ hx, he y _ hy, AV.den, d, Sem.run_bind, run_eqGuard_agg W .eql T x y _ _ hq.1, Result.andThen_ok, run_eql_struct, hq.2, Sem.run_pure]
theorem sp_neqS {x y : Operand} {T U : TypeId} {xs ys : List AV} {us vs : List Value} {b : Bool} (ho : o.op = .binOp .neq T x y U) (hx : ρ x = some (.agg xs)) (hy : ρ y = some (.agg ys)) (hu : xs = us.map .val) (hv : ys = vs.map .val) (hq : EqT P T us vs b) :
    OpSpec P o ρ [] (.val (.bool (!b))) [] :=
  .pure fun ev env W O R he _ => by
    have d : ∀ l : List Value, AV.denL env (l.map .val) = l := fun l => by rw [AV.denL_map, List.map_map]; exact List.map_id'' (fun _ => rfl) l
    subst hu; subst hv
    simp only [execOp, ho, he x _ hx, he y _ hy, AV.den, d, Sem.run_bind, run_eqGuard_agg W .neq T x y _ _ hq.1, Result.andThen_ok, run_neq_struct, hq.2, Sem.run_pure]
theorem sp_not {x : Operand} {T : TypeId} {m : Bool} (ho : o.op = .unOp .not T x) (hx : ρ x = some (.val (.bool m))) : OpSpec P o ρ [] (.val (.bool (!m))) [] :=
  .pure fun ev env W O R he _ => by simp [execOp, ho, he x _ hx, AV.den, Op.unary]
theorem sp_neg {x : Operand} {T : TypeId} {k : IntKind} {m : Int} (ho : o.op = .unOp .neg T x) (hx : ρ x = some (.val (.int k m))) (hz : inK k (0 - m) = true) : OpSpec P o ρ [] (.val (.int k (0 - m))) [] :=
  .pure fun ev env W O R he _ => by simp [execOp, ho, he x _ hx, AV.den, Op.unary, Op.intArith, -Int.zero_sub, wrap_inK hz]
theorem sp_conv {x : Operand} {S T : TypeId} {k k' : IntKind} {m : Int} {dS : TypeDesc} (ho : o.op = .convert S T x) (hS : P.underlying S = some dS) (hT : P.underlying T = some (.int k')) (hx : ρ x = some (.val (.int k m))) (hz : inK k' m = true) :
    OpSpec P o ρ [] (.val (.int k' m)) [] :=
  .pure fun ev env W O R he _ => by simp [execOp, ho, he x _ hx, AV.den, convert, run_underlying hS, run_underlying hT, Conv.intToInt, wrap_inK hz]
theorem sp_extract {x : Operand} {i : Nat} {cs : List AV} {a : AV} (ho : o.op = .extract x i) (hx : ρ x = some (.tup cs)) (hi : cs[i]? = some a) : OpSpec P o ρ [] a [] :=
  .pure fun ev env W O R he _ => by simp [execOp, ho, he x _ hx, AV.den, Instr.extract, denL_get hi]
theorem sp_makeFunc {f : FuncId} {fi ca : List Operand} {fa cb : List AV} (ho : o.op = .makeFunc (.func f) fi.toArray ca.toArray) (hf : fi.map ρ = fa.map some) (hc : ca.map ρ = cb.map some) :
    OpSpec P o ρ [] (.fn f fa cb) [] :=
  .pure fun ev env W O R he _ => by
    have key : ∀ (l : List Operand) (m : List AV), l.map ρ = m.map some → l.map ev = AV.denL env m := by
      intro l
      induction l with
      | nil => intro m h; cases m <;> first | rfl | cases h
      | cons x l ih =>
        intro m h
        cases m with
        | nil => cases h
        | cons b m =>
          simp only [List.map_cons, List.cons.injEq] at h
          simp only [List.map_cons, AV.denL, he x b h.1, ih m h.2]
    simp [execOp, ho, AV.den, Instr.makeFunc, key _ _ hf, key _ _ hc]
end

/-- parts laid into cells -/
def fillA (place : Nat → Option (Nat × Nat)) (cells : List AV) : List (Nat × AV) → Option (List AV)
  | [] => some cells
  | (i, a) :: rest =>
    match place i with
    | none => none
    | some (off, size) => if a.cs.length ≠ size ∨ off + a.cs.length > cells.length then none else fillA place (cells.take off ++ a.cs ++ cells.drop (off + a.cs.length)) rest
theorem fold_splice : ∀ (vs : List Value) (off j : Nat) (cur : Array Value), off + j + vs.length ≤ cur.size →
    ((vs.zipIdx j).foldl (fun cs (p : Value × Nat) => cs.setIfInBounds (off + p.2) p.1) cur).toList = cur.toList.take (off + j) ++ vs ++ cur.toList.drop (off + j + vs.length) := by
  intro vs
  induction vs with
  | nil => intro off j cur h; simp
  | cons v vs ih =>
    intro off j cur h
    simp only [List.zipIdx_cons, List.foldl_cons]
    have hi : off + j < cur.size := by simp at h; omega
    rw [ih off (j + 1) _ (by simp at h ⊢; omega)]
    have e := list_seg_step cur.toList (off + j) v vs (by simp at h ⊢; omega)
    simpa [Array.toList_setIfInBounds, Nat.add_assoc] using e
theorem fill_den (env : Env) (place : Nat → Option (Nat × Nat)) : ∀ (parts : List (Nat × AV)) (cells : List AV), (∀ p ∈ parts, p.2.flat = true) →
    Instr.fill place (AV.denL env cells).toArray (parts.map fun p => (p.1, p.2.den env)) = (fillA place cells parts).map fun cs => (AV.denL env cs).toArray := by
  intro parts
  induction parts with
  | nil => intro cells _; rfl
  | cons p rest ih =>
    intro cells hp
    obtain ⟨i, a⟩ := p
    have ha : a.flat = true := hp (i, a) (by simp)
    simp only [List.map_cons, Instr.fill, fillA]
    cases place i with
    | none => rfl
    | some q =>
      obtain ⟨off, size⟩ := q
      have hc : (a.den env).cells = (AV.denL env a.cs).toArray := AV.den_cells ha env
      have hsz : (a.den env).cells.size = a.cs.length := by rw [hc]; simp [denL_length]
      simp only [hsz, List.size_toArray, denL_length]
      by_cases h : a.cs.length ≠ size ∨ off + a.cs.length > cells.length
      · have h' : (decide (a.cs.length ≠ size) || decide (off + a.cs.length > cells.length)) = true := by simpa using h
        simp only [h, if_true]
        first | rfl | simp_all
      · rw [if_neg (by simpa using h), if_neg h]
        rw [← ih _ (fun p hp' => hp p (by simp [hp']))]
        congr 1
        apply Array.ext'
        have hb : off + 0 + (AV.denL env a.cs).length ≤ (AV.denL env cells).toArray.size := by simp [denL_length]; omega
        have := fold_splice (AV.denL env a.cs) off 0 (AV.denL env cells).toArray hb
        rw [hc]
        rw [show (AV.denL env a.cs).toArray.zipIdx = ((AV.denL env a.cs).zipIdx).toArray from by simp]
        rw [List.foldl_toArray]
        first
          | (simpa [denL_append, denL_take, denL_drop, denL_length] using this)
          | (simp [denL_append, denL_take, denL_drop, denL_length] at this ⊢; exact this)

theorem St.fresh {W W' : World} {R : Nat → Prop} {env : Env} {x : NEnt} {O : Nat → Prop} (hk : Keep (fun _ => False) W W') (hR : ∀ b, R b → b < W.heap.size)
    (hx : x.holds env W' O R) (hO : ∀ b, O b → W.heap.size ≤ b ∧ b < W'.heap.size) : St ⟨W, fun _ => False, R⟩ env [x] W' (fun _ => O) R :=
  ⟨hk, fun y hy => by rw [List.mem_singleton] at hy; subst hy; exact hx, fun y _ b hb => ⟨(hO b hb).2, .inl (hO b hb).1, fun hr => by have := hR b hr; have := (hO b hb).1; omega⟩,
    fun y hy z hz hne => by rw [List.mem_singleton] at hy hz; subst hy; subst hz; exact absurd rfl hne, fun b hb => ⟨Nat.lt_of_lt_of_le (hR b hb) hk.size, .inr hb⟩, fun _ h => h, by simp⟩
theorem keep_alloc (W : World) (o : Obj) : Keep (fun _ => False) W (W.alloc o) := Keep.of_below ((Below.refl _ W).alloc (Nat.le_refl _) o)
def setEnv (env : Env) (n : Nat) (v : Value) : Env := fun m => if m = n then v else env m
theorem setEnv_same (env : Env) (n : Nat) (v : Value) : setEnv env n v n = v := by simp [setEnv]
theorem setEnv_other {env : Env} {n m : Nat} {v : Value} (h : n ≠ m) : setEnv env n v m = env m := by simp [setEnv, Ne.symm h]
theorem denL_set {env : Env} {n : Nat} {v : Value} {l : List AV} (h : AV.hasL n l = false) : AV.denL (setEnv env n v) l = AV.denL env l :=
  AV.denL_congr l fun m hm => setEnv_other fun e => by subst e; rw [h] at hm; cases hm
/-- a new block under a name -/
theorem got_blk {W : World} {R : Nat → Prop} (hR : ∀ b, R b → b < W.heap.size) (env : Env) (n : Nat) (cells : List AV) (T : TypeId) (hn : AV.hasL n cells = false) :
    Got ⟨W, fun _ => False, R⟩ env (.ptr n 0) [.blk n cells T] (.pointer (some ⟨W.heap.size, 0, none⟩)) (W.alloc (.cells (AV.denL env cells).toArray T)) := by
  refine ⟨setEnv env n (.pointer (some ⟨W.heap.size, 0, none⟩)), fun _ b => b = W.heap.size, R, fun m hm => setEnv_other (hm (.blk n cells T) (by simp)), by simp [AV.den, setEnv_same, blockOff], ?_⟩
  refine St.fresh (keep_alloc W _) hR ?_ (fun b hb => by subst hb; simp)
  refine ⟨W.heap.size, setEnv_same _ _ _, rfl, ?_⟩
  rw [denL_set hn]
  exact heap_alloc_new W _
section
variable {P : Program} {o : Oper} {ρ : Operand → Option AV}
theorem sp_alloc {T : TypeId} {z : Value} (n : Nat) {zs : List Value} (ho : o.op = .alloc T) (hz : ∀ w, (zeroValue T).run P w = .ok z w) (hc : z.cells.toList = zs) : OpSpec P o ρ [] (.ptr n 0) [.blk n (zs.map .val) T] := by
  intro ev env W O R he _ _ hR
  have d : AV.denL env (zs.map .val) = zs := by rw [AV.denL_map, List.map_map]; exact List.map_id'' (fun _ => rfl) zs
  have nh : AV.hasL n (zs.map .val) = false := by
    clear hc d
    induction zs with
    | nil => rfl
    | cons v l ih => simp [AV.hasL, AV.has, ih]
  have g := got_blk hR env n (zs.map .val) T nh
  rw [d] at g
  have : (execOp ev o).run P W = .ok (.value (.pointer (some ⟨W.heap.size, 0, none⟩))) (W.alloc (.cells zs.toArray T)) := by
    simp [execOp, ho, Instr.alloc, hz, newVar, newRow, ← hc]
  rw [this]
  exact g
theorem sp_box {T : TypeId} {x : Operand} {a : AV} (n : Nat) {cells : List AV} (ho : o.op = .box T x) (hx : ρ x = some a) (hfl : a.flat = true) (hcs : a.cs = cells) (hn : AV.hasL n cells = false) : OpSpec P o ρ [] (.ptr n 0) [.blk n cells T] := by
  intro ev env W O R he _ _ hR
  subst hcs
  have g := got_blk hR env n a.cs T hn
  have : (execOp ev o).run P W = .ok (.value (.pointer (some ⟨W.heap.size, 0, none⟩))) (W.alloc (.cells (AV.denL env a.cs).toArray T)) := by
    simp [execOp, ho, Instr.box, newVar, newRow, he x a hx, AV.den_cells hfl]
  rw [this]
  exact g
theorem mapL {ev : Operand → Value} {env : Env} (he : ∀ x a, ρ x = some a → ev x = a.den env) : ∀ (l : List (Nat × Operand)) (m : List (Nat × AV)), (l.map fun p => (p.1, ρ p.2)) = (m.map fun p => (p.1, some p.2)) →
    (l.map fun p => (p.1, ev p.2)) = m.map fun p => (p.1, p.2.den env) := by
  intro l
  induction l with
  | nil => intro m h; cases m <;> first | rfl | cases h
  | cons x l ih =>
    intro m h
    cases m with
    | nil => cases h
    | cons b m =>
      simp only [List.map_cons, List.cons.injEq, Prod.mk.injEq] at h
      simp only [List.map_cons, he x.2 b.2 h.1.2, h.1.1, ih m h.2]
theorem sp_build {T : TypeId} {ps : List (Nat × Operand)} {qs : List (Nat × AV)} {z : List AV} {pl : Nat → Option (Nat × Nat)} {cells : List AV} (ho : o.op = .build T ps.toArray)
    (hb : ∀ parts, P.built T parts = Instr.fill pl (AV.denL (fun _ => undef) z).toArray parts) (hz : z.all (fun a => match a with | .val _ => true | _ => false) = true)
    (hp : (ps.map fun p => (p.1, ρ p.2)) = (qs.map fun p => (p.1, some p.2))) (hfl : qs.all (fun p => p.2.flat) = true) (hfill : fillA pl z qs = some cells) : OpSpec P o ρ [] (.agg cells) [] :=
  .pure fun ev env W O R he _ => by
    have dz : AV.denL (fun _ => undef) z = AV.denL env z := by
      clear hb hfill
      induction z with
      | nil => rfl
      | cons a l ih =>
        simp only [List.all_cons, Bool.and_eq_true] at hz
        simp only [AV.denL, ih hz.2]
        congr 1
        cases a <;> first | rfl | exact absurd hz.1 (by simp)
    have h1 := fill_den env pl qs z (fun p hp => List.all_eq_true.1 hfl p hp)
    rw [hfill, ← mapL he ps qs hp] at h1
    have h2 : P.built T ((ps.toArray.map fun x => (x.1, ev x.2)).toList) = some (AV.denL env cells).toArray := by
      rw [hb, dz]
      simpa using h1
    have h3 := run_build W T (ps.toArray.map fun x => (x.1, ev x.2)) _ h2
    simp only [execOp, ho, Sem.run_bind, Sem.run_pure, Result.andThen_ok, AV.den]
    rw [h3]
    rfl

/-- cells of rows, and symbolic values -/
inductive ADL (need : List NEnt) : List AV → List D → Prop where
  | nil : ADL need [] []
  | v {x : Value} {l m} : ADL need l m → ADL need (.val x :: l) (D.v x :: m)
  | s {n size els l m} : NEnt.ro n size els ∈ need → ADL need l m → ADL need (.ref n :: l) (D.s size els :: m)
theorem ADL.ok {need : List NEnt} {l : List AV} {m : List D} (h : ADL need l m) {env : Env} {W : World} {O : Nat → Nat → Prop} {R : Nat → Prop} (hn : ∀ x ∈ need, x.holds env W (O x.name) R) :
    l.length = m.length ∧ ∀ (k : Nat) (d : D), m[k]? = some d → ∃ u : Value, (AV.denL env l)[k]? = some u ∧ d.ok W R u := by
  induction h with
  | nil => exact ⟨rfl, fun k d hk => by simp at hk⟩
  | v _ ih =>
    refine ⟨by simp [ih.1], fun k d hk => ?_⟩
    cases k with
    | zero => simp at hk; subst hk; exact ⟨_, rfl, rfl⟩
    | succ k => simp at hk; simpa [AV.denL] using ih.2 k d hk
  | s hm _ ih =>
    refine ⟨by simp [ih.1], fun k d hk => ?_⟩
    cases k with
    | zero =>
      simp at hk; subst hk
      have := hn _ hm
      simp only [NEnt.holds] at this
      refine ⟨_, rfl, ?_⟩
      obtain ⟨a, cap, h1, rest⟩ := this
      simp only [AV.den, h1, oneOf]
      exact ⟨a, cap, rfl, rest⟩
    | succ k => simp at hk; simpa [AV.denL] using ih.2 k d hk
/-- a slice type -/
structure SlT (P : Program) (T E : TypeId) (size bytes : Nat) : Prop where
  under : P.underlying T = some (.slice E)
  info : ∃ i z, P.info? E = some i ∧ i.zero = some z ∧ i.size = size ∧ i.bytes = bytes ∧ z.cells.size = size
  pos : 0 < size
theorem own_new {W : World} {E : TypeId} {size len : Nat} {els : List (List D)} {cells : List Value} {R : Nat → Prop} (hsz : ∀ el ∈ els, el.length = size) (hl : els.length = len) (hc : cells.length = len * size) (hm : len ≤ maxLen)
    (hd : ∀ (k : Nat) (d : D), els.flatten[k]? = some d → ∃ u : Value, cells[k]? = some u ∧ d.ok (W.alloc (.cells cells.toArray E)) R u ∧ u.oneCell' = true) :
    owns E size els (W.alloc (.cells cells.toArray E)) (fun b => b = W.heap.size) R (.slice (some ⟨W.heap.size, 0, none⟩) len len) := by
  refine ⟨hsz, cells, ⟨by rw [hl]; exact hc, .inr ⟨W.heap.size, len, cells.toArray, by rw [hl], Nat.zero_le _, heap_alloc_new W _, by omega, hm, by simpa using hc, ?_⟩⟩, fun b hb => ?_, hd⟩
  · rw [hl, ← hc]; simp
  · simp [Value.ownBlock] at hb; exact hb.symm
theorem fill_seq (env : Env) (size : Nat) : ∀ (as_ : List AV) (k : Nat) (cur : Array Value), (∀ a ∈ as_, a.flat = true ∧ a.cs.length = size) → cur.size = (k + as_.length) * size →
    Instr.fill (fun i => some (i * size, size)) cur ((as_.zipIdx k).map fun p => (p.2, p.1.den env)) = some (cur.toList.take (k * size) ++ AV.denL env (as_.flatMap AV.cs)).toArray := by
  intro as_
  induction as_ with
  | nil =>
    intro k cur _ hs
    simp at hs
    simp only [List.zipIdx_nil, List.map_nil, Instr.fill, List.flatMap_nil, AV.denL, List.append_nil]
    rw [List.take_of_length_le (by simp [hs])]
  | cons a l ih =>
    intro k cur ha hs
    obtain ⟨hf, hc⟩ := ha a (by simp)
    have hcd : (a.den env).cells = (AV.denL env a.cs).toArray := AV.den_cells hf env
    have hsz : (a.den env).cells.size = size := by rw [hcd]; simp [denL_length, hc]
    have hle : k * size + size ≤ cur.size := by
      rw [hs, List.length_cons, show k + (l.length + 1) = (k + 1) + l.length by omega, Nat.add_mul (k + 1), Nat.add_mul k 1, Nat.one_mul]
      omega
    simp only [List.zipIdx_cons, List.map_cons, Instr.fill, hsz]
    rw [if_neg (by simp; omega)]
    have hb : k * size + 0 + (AV.denL env a.cs).length ≤ cur.size := by simp [denL_length, hc]; omega
    have hspl := fold_splice (AV.denL env a.cs) (k * size) 0 cur hb
    rw [hcd, show (AV.denL env a.cs).toArray.zipIdx = ((AV.denL env a.cs).zipIdx).toArray from by simp, List.foldl_toArray]
    have hlen : ((AV.denL env a.cs).zipIdx.foldl (fun cs (p : Value × Nat) => cs.setIfInBounds (k * size + p.2) p.1) cur).size = cur.size := by
      have h := congrArg List.length hspl
      rw [List.length_append, List.length_append, List.length_take, List.length_drop, denL_length, hc, Array.length_toList, Array.length_toList] at h
      omega
    rw [ih (k + 1) _ (fun x hx => ha x (by simp [hx])) (by rw [hlen, hs, List.length_cons]; congr 1; omega)]
    congr 2
    rw [hspl]
    simp only [Nat.add_zero, denL_length, hc, List.flatMap_cons, denL_append]
    rw [List.take_append_of_le_length (by simp [denL_length, hc, Nat.add_mul]; omega), List.take_of_length_le (by simp [denL_length, hc, Nat.add_mul]; omega)]
    simp
theorem run_buildSlice' (w : World) (t e : TypeId) (len : Nat) (parts : Array (Nat × Value)) (cells : Array Value) (ie : TypeInfo) (z : Value)
    (hu : P.underlying t = some (.slice e)) (hie : P.info? e = some ie) (hz : ie.zero = some z) (hsmall : ¬ len * ie.size > 2 ^ 24) (hpos : ¬ len * ie.size = 0)
    (h : Instr.fill (fun i => some (i * ie.size, ie.size)) ((Array.range (len * ie.size)).map (z.cells[· % z.cells.size]!)) parts.toList = some cells) :
    (Instr.buildSlice t len parts).run P w = .ok (.slice (some ⟨w.heap.size, 0, none⟩) len len) (w.alloc (.cells cells e)) := by
  simp [Instr.buildSlice, run_underlying hu, sizeOf, typeInfo, zeroValue, hie, hz, hsmall, hpos, h, newRow]
theorem sp_buildSlice {T E : TypeId} {size bytes len : Nat} {ps : List (Nat × Operand)} {qs : List AV} {need : List NEnt} {els : List (List D)} (n : Nat) (ho : o.op = .buildSlice T len ps.toArray)
    (hT : SlT P T E size bytes) (hsm : len * size ≤ 16777216) (hpos : 0 < len) (hl : qs.length = len)
    (hp : (ps.map fun p => (p.1, ρ p.2)) = (qs.zipIdx.map fun p => (p.2, some p.1))) (hfl : qs.all (fun p => p.flat && p.cs.length == size) = true)
    (had : ADL need (qs.flatMap AV.cs) els.flatten) (hsz : ∀ el ∈ els, el.length = size) (hel : els.length = len) (hno : (qs.flatMap AV.cs).all (fun a => !a.has n) = true) (hnn : need.all (fun x => !x.has n) = true) : OpSpec P o ρ need (.ref n) [.row n E size els] := by
  intro ev env W O R he hn _ hR
  obtain ⟨i, z, hi, hz, hs, hb, hzs⟩ := hT.info
  have hfl' : ∀ a ∈ qs, a.flat = true ∧ a.cs.length = size := fun a ha => by simpa using List.all_eq_true.1 hfl a ha
  have hmap : (ps.map fun p => (p.1, ev p.2)) = qs.zipIdx.map fun p => (p.2, p.1.den env) := by
    have := mapL he ps (qs.zipIdx.map fun p => (p.2, p.1)) (by rw [hp, List.map_map]; rfl)
    rw [this, List.map_map]; rfl
  have hfill := fill_seq env size qs 0 ((Array.range (len * size)).map (z.cells[· % z.cells.size]!)) hfl' (by simp [hl])
  rw [← hmap] at hfill
  simp only [Nat.zero_mul, List.take_zero, List.nil_append] at hfill
  have hpos' : ¬ len * size = 0 := by have := Nat.mul_pos hpos hT.pos; omega
  have hrun := run_buildSlice' W T E len (ps.toArray.map fun p => (p.1, ev p.2)) (AV.denL env (qs.flatMap AV.cs)).toArray i z hT.under hi hz (by rw [hs]; exact Nat.not_lt.2 (by simpa using hsm)) (by rw [hs]; exact hpos') (by rw [hs]; simpa using hfill)
  have hexec : (execOp ev o).run P W = .ok (.value (.slice (some ⟨W.heap.size, 0, none⟩) len len)) (W.alloc (.cells (AV.denL env (qs.flatMap AV.cs)).toArray E)) := by
    simp only [execOp, ho, Sem.run_bind, Sem.run_pure, Result.andThen_ok]
    rw [hrun]
    rfl
  rw [hexec]
  have hadl := had.ok hn
  have hclen : (AV.denL env (qs.flatMap AV.cs)).length = len * size := by
    rw [denL_length, hadl.1]
    rw [← hel]
    clear hadl had hl hel hp hfill hrun hexec hmap
    induction els with
    | nil => simp
    | cons e l ih => simp [hsz e (by simp), ih (fun x hx => hsz x (by simp [hx])), Nat.add_mul]; omega
  refine ⟨setEnv env n (.slice (some ⟨W.heap.size, 0, none⟩) len len), fun _ b => b = W.heap.size, R, fun m hm => setEnv_other (hm (.row n E size els) (by simp)), by simp [AV.den, setEnv_same, oneOf], ?_⟩
  refine St.fresh (keep_alloc W _) hR ?_ (fun b hb => by subst hb; simp)
  simp only [NEnt.holds, setEnv_same]
  have hone : ∀ v ∈ AV.denL env (qs.flatMap AV.cs), v.oneCell' = true := denL_one (by
    rw [List.all_eq_true]
    intro a ha
    obtain ⟨x, hx, hax⟩ := List.mem_flatMap.1 ha
    exact List.all_eq_true.1 (cs_all_one (hfl' x hx).1) a hax)
  refine own_new hsz hel hclen (by simp only [maxLen]; have := hT.pos; have h2 : len ≤ len * size := Nat.le_mul_of_pos_right len hT.pos; omega) fun k d hk => ?_
  obtain ⟨u, hu, hd⟩ := hadl.2 k d hk
  refine ⟨u, hu, d.mono W _ R R (fun b hb => ⟨hb, ?_⟩) u hd, hone u (List.mem_of_getElem? hu)⟩
  exact Below.heap_alloc W _ b (hR b hb)
theorem sp_emptySlice {T E : TypeId} {size bytes : Nat} (n : Nat) (ho : o.op = .buildSlice T 0 #[]) (hT : SlT P T E size bytes) : OpSpec P o ρ [] (.ref n) [.row n E size []] := by
  intro ev env W O R he _ _ hR
  obtain ⟨i, z, hi, hz, hs, hb, hzs⟩ := hT.info
  have : (execOp ev o).run P W = .ok (.value (.slice (some ⟨W.heap.size, 0, none⟩) 0 0)) (W.alloc (.cells #[] E)) := by
    simp [execOp, ho, Instr.buildSlice, run_underlying hT.under, sizeOf, typeInfo, hi, Instr.fill, newRow]
    congr 1
    congr 1
    apply Array.ext <;> simp
  rw [this]
  refine ⟨setEnv env n (.slice (some ⟨W.heap.size, 0, none⟩) 0 0), fun _ b => b = W.heap.size, R, fun m hm => setEnv_other (hm (.row n E size []) (by simp)), by simp [AV.den, setEnv_same, oneOf], ?_⟩
  refine St.fresh (keep_alloc W _) hR ?_ (fun b hb => by subst hb; simp)
  simp only [NEnt.holds, setEnv_same]
  have := own_new (W := W) (E := E) (size := size) (len := 0) (els := []) (cells := []) (R := R) (by simp) rfl (by simp) (by simp) (by simp)
  exact this
end
end Go.Proofs.Ytpjlihkpnhamlaa.Sy
end

/- The small logic of symbolic states: loads, fields, indexes, slices. -/
section
set_option linter.unusedSimpArgs false
set_option linter.unusedVariables false
namespace Go.Proofs.Ytpjlihkpnhamlaa.Sy
open Go.RowKit

def IsRow (x : NEnt) (n size : Nat) (els : List (List D)) : Prop := x = .ro n size els ∨ ∃ E, x = .row n E size els
theorem IsRow.name {x : NEnt} {n size : Nat} {els : List (List D)} (h : IsRow x n size els) : x.name = n := by
  rcases h with rfl | ⟨E, rfl⟩ <;> rfl
theorem isRo {n size : Nat} {els : List (List D)} : IsRow (.ro n size els) n size els := .inl rfl
theorem isOwn {n E size : Nat} {els : List (List D)} : IsRow (.row n E size els) n size els := .inr ⟨E, rfl⟩
theorem flatten_get {α : Type} {size : Nat} : ∀ (els : List (List α)) (i j : Nat) (el : List α), (∀ x ∈ els, x.length = size) → els[i]? = some el → j < size → els.flatten[i * size + j]? = el[j]? := by
  intro els
  induction els with
  | nil => intro i j el _ h; simp at h
  | cons x l ih =>
    intro i j el hs h hj
    have hx : x.length = size := hs x (by simp)
    cases i with
    | zero =>
      simp at h; subst h
      simp only [Nat.zero_mul, Nat.zero_add, List.flatten_cons]
      rw [List.getElem?_append_left (by omega)]
    | succ i =>
      simp at h
      rw [List.flatten_cons, List.getElem?_append_right (by rw [hx, Nat.add_mul]; omega)]
      rw [show (i + 1) * size + j - x.length = i * size + j by rw [hx, Nat.add_mul]; omega]
      exact ih i j el (fun y hy => hs y (by simp [hy])) h hj
theorem row_read {x : NEnt} {n size : Nat} {els : List (List D)} {env : Env} {W : World} {O R : Nat → Prop} (hx : IsRow x n size els) (h : x.holds env W O R) :
    ∃ a cap, env n = .slice a els.length cap ∧ els.length ≤ cap ∧ cap ≤ maxLen ∧ (a = none → cap = 0) ∧
      ∀ i el, els[i]? = some el → el.length = size ∧ ∀ j d, el[j]? = some d → ∃ b o, a = some ⟨b, o, none⟩ ∧ (R b ∨ O b) ∧ ∃ u : Value, W.cell? ⟨b, o + (i * size + j), none⟩ = some u ∧ d.ok W R u ∧ u.oneCell' = true := by
  rcases hx with rfl | ⟨E, rfl⟩
  · obtain ⟨a, cap, h1, h2, h3, h4, h5⟩ := h
    refine ⟨a, cap, h1, h2, h3, h4, fun i el hi => ⟨(h5 i el hi).1, fun j d hj => ?_⟩⟩
    obtain ⟨b, o, ha, hb, rest⟩ := (h5 i el hi).2 j d hj
    exact ⟨b, o, ha, .inl hb, rest⟩
  · obtain ⟨hs, cells, ho, hb, hd⟩ := h
    rcases ho.2 with ⟨hv, hn⟩ | ⟨g, cap, cur, hv, _, hg, hnc, hcm, hcs, htk⟩
    · have hnil : els = [] := List.eq_nil_of_length_eq_zero hn
      subst hnil
      exact ⟨none, 0, hv, Nat.le_refl _, Nat.zero_le _, fun _ => rfl, fun i el hi => by simp at hi⟩
    · refine ⟨some ⟨g, 0, none⟩, cap, hv, hnc, hcm, by simp, fun i el hi => ?_⟩
      have hel : el.length = size := hs el (List.mem_of_getElem? hi)
      refine ⟨hel, fun j d hj => ?_⟩
      have hjs : j < size := by
        have := (List.getElem?_eq_some_iff.1 hj).1
        omega
      obtain ⟨u, hu, hok, h1c⟩ := hd (i * size + j) d (by rw [flatten_get els i j el hs hi hjs]; exact hj)
      have hc := World.ownsRow.cells ho (g := g) (by rw [hv]; rfl) (i * size + j) u hu
      have hadd : (⟨g, 0, none⟩ : Addr).add (i * size + j) = ⟨g, i * size + j, none⟩ := by unfold Addr.add; split <;> simp_all
      rw [hadd] at hc
      exact ⟨g, 0, rfl, .inr (hb g (by rw [hv]; rfl)), u, by rw [Nat.zero_add]; exact hc, hok, h1c⟩
theorem add_lit (b o k : Nat) : (⟨b, o, none⟩ : Addr).add k = ⟨b, o + k, none⟩ := by unfold Addr.add; split <;> simp_all
theorem cellAt_eq {v : Value} {b o len cap k : Nat} (h : v = .slice (some ⟨b, o, none⟩) len cap) : cellAt v k = .pointer (some ⟨b, o + k, none⟩) := by
  subst h; simp [cellAt, add_lit]

/-- a type: whether it lies in several cells, and in how many -/
structure VarT (P : Program) (T size : Nat) (agg : Bool) : Prop where
  isAgg : ∀ w, (isAgg T).run P w = .ok agg w
  sizeOf : ∀ w, (sizeOf T).run P w = .ok size w
/-- a struct's field -/
def FieldT (P : Program) (T f off ft : Nat) : Prop := ∃ fs fd, P.underlying T = some (.struct fs) ∧ fs[f]? = some fd ∧ fd.offset = off ∧ fd.type = ft

/-- cells as_ they are read: what is a slice gets a name -/
inductive DAL : List D → List AV → List NEnt → Prop where
  | nil : DAL [] [] []
  | v {x : Value} {l m ns} : DAL l m ns → DAL (D.v x :: l) (.val x :: m) ns
  | s {n size els l m ns} : DAL l m ns → DAL (D.s size els :: l) (.ref n :: m) (.ro n size els :: ns)
theorem DAL.has {ds : List D} {as_ : List AV} {ns : List NEnt} (h : DAL ds as_ ns) {n : Nat} (hn : AV.hasL n as_ = true) : ∃ x ∈ ns, x.name = n := by
  induction h with
  | nil => cases hn
  | v _ ih => simp only [AV.hasL, AV.has, Bool.false_or] at hn; exact ih hn
  | s _ ih =>
    simp only [AV.hasL, AV.has, Bool.or_eq_true, beq_iff_eq] at hn
    rcases hn with rfl | hn
    · exact ⟨_, List.mem_cons_self, rfl⟩
    · obtain ⟨x, hx, e⟩ := ih hn; exact ⟨x, by simp [hx], e⟩
theorem DAL.onlyName {ds : List D} {as_ : List AV} {ns : List NEnt} (h : DAL ds as_ ns) {x : NEnt} (hx : x ∈ ns) {k : Nat} (hk : x.has k = true) : k = x.name := by
  induction h with
  | nil => cases hx
  | v _ ih => exact ih hx
  | s _ ih =>
    rcases List.mem_cons.1 hx with rfl | hx'
    · simp only [NEnt.has, beq_iff_eq] at hk; exact hk.symm
    · exact ih hx'
theorem DAL.ok {ds : List D} {as_ : List AV} {ns : List NEnt} (h : DAL ds as_ ns) (env : Env) (W : World) (R : Nat → Prop) : ∀ us : List Value, ds.length = us.length →
    (∀ (j : Nat) (d : D), ds[j]? = some d → ∃ u : Value, us[j]? = some u ∧ d.ok W R u) → (ns.map NEnt.name).Nodup →
    ∃ env', (∀ n, (∀ x ∈ ns, x.name ≠ n) → env' n = env n) ∧ AV.denL env' as_ = us ∧ ∀ x ∈ ns, ∀ O, x.holds env' W O R := by
  induction h with
  | nil => intro us hl _ _; exact ⟨env, fun _ _ => rfl, by cases us <;> first | rfl | simp at hl, by simp⟩
  | v _ ih =>
    intro us hl hd hn
    cases us with
    | nil => simp at hl
    | cons u us =>
      obtain ⟨env', h1, h2, h3⟩ := ih us (by simpa using hl) (fun j d hj => by simpa using hd (j + 1) d (by simpa using hj)) hn
      obtain ⟨u', hu', hok⟩ := hd 0 _ (by rfl)
      simp at hu'; subst hu'
      exact ⟨env', h1, by simp only [AV.denL, AV.den, h2]; rw [show u = _ from hok], h3⟩
  | @s n size els l m ns hd' ih =>
    intro us hl hd hn
    cases us with
    | nil => simp at hl
    | cons u us =>
      simp only [List.map_cons, List.nodup_cons] at hn
      obtain ⟨env1, h1, h2, h3⟩ := ih us (by simpa using hl) (fun j d hj => by simpa using hd (j + 1) d (by simpa using hj)) hn.2
      obtain ⟨u', hu', hok⟩ := hd 0 _ (by rfl)
      simp at hu'; subst hu'
      have hno : ∀ x ∈ ns, x.name ≠ n := fun x hx e => hn.1 (List.mem_map.2 ⟨x, hx, e⟩)
      have hnm : AV.hasL n m = false := by
        cases e : AV.hasL n m with
        | false => rfl
        | true => obtain ⟨x, hx, en⟩ := hd'.has e; exact absurd en (hno x hx)
      have hro : reads size els W R u := hok
      refine ⟨setEnv env1 n u, fun k hk => ?_, ?_, ?_⟩
      · rw [setEnv_other (show n ≠ k from hk (.ro n size els) (by simp))]
        exact h1 k fun x hx => hk x (by simp [hx])
      · simp only [AV.denL, AV.den, setEnv_same, denL_set hnm, h2]
        obtain ⟨a, cap, e, _⟩ := hro
        rw [e]; rfl
      · intro x hx O
        rcases List.mem_cons.1 hx with rfl | hx
        · simp only [NEnt.holds, setEnv_same]; exact hro
        · refine NEnt.holds_congr (fun k hk => ?_) (h3 x hx O)
          -- x is an entry of ns: all are slices that are read
          have hxn : ∀ k, x.has k = true → k = x.name := fun k hk => hd'.onlyName hx hk
          rw [setEnv_other (fun e => hno x hx (by rw [← hxn k hk]; exact e.symm))]

def IsBlk (x : NEnt) (n : Nat) (cells : List AV) : Prop := ∃ T, x = .blk n cells T ∨ x = .rob n cells T
theorem isBlk {n : Nat} {cells : List AV} {T : TypeId} : IsBlk (.blk n cells T) n cells := ⟨T, .inl rfl⟩
theorem isRob {n : Nat} {cells : List AV} {T : TypeId} : IsBlk (.rob n cells T) n cells := ⟨T, .inr rfl⟩
theorem blk_cell {x : NEnt} {n : Nat} {cells : List AV} {env : Env} {W : World} {O R : Nat → Prop} (hx : IsBlk x n cells) (h : x.holds env W O R) :
    ∃ b T, env n = .pointer (some ⟨b, 0, none⟩) ∧ W.heap[b]? = some (.cells (AV.denL env cells).toArray T (0, 0)) ∧ ∀ (i : Nat) (a : AV), cells[i]? = some a → W.cell? ⟨b, i, none⟩ = some (a.den env) := by
  obtain ⟨T, rfl | rfl⟩ := hx
  all_goals
    obtain ⟨b, h1, h2, h3⟩ := h
    exact ⟨b, T, h1, h3, fun i a hi => by simp [World.cell?, h3, denL_get hi]⟩
theorem St.roNews {W : World} {R : Nat → Prop} {env : Env} {ns : List NEnt} (hR : ∀ b, R b → b < W.heap.size) (h : ∀ x ∈ ns, ∀ O, x.holds env W O R) (hn : (ns.map NEnt.name).Nodup) :
    St ⟨W, fun _ => False, R⟩ env ns W (fun _ _ => False) R :=
  ⟨Keep.refl _ _, fun x hx => h x hx _, fun _ _ _ h => h.elim, fun _ _ _ _ _ _ h => h.1, fun b h => ⟨hR b h, .inr h⟩, fun _ h => h, hn⟩

section
variable {P : Program} {o : Oper} {ρ : Operand → Option AV}
theorem sp_loadB {T : TypeId} {x : Operand} {n off sz : Nat} {cells : List AV} {y : NEnt} {a : AV} (ho : o.op = .load T x) (hy : IsBlk y n cells) (hx : ρ x = some (.ptr n off)) (hT : VarT P T sz false) (hc : cells[off]? = some a) :
    OpSpec P o ρ [y] a [] :=
  .pure fun ev env W O R he hn => by
    obtain ⟨b, T', h1, h3, h4⟩ := blk_cell hy (hn _ (List.mem_singleton.2 rfl))
    simp [execOp, ho, he x _ hx, AV.den, h1, blockOff, Instr.loadAt, Instr.sureAddr, loadVar, hT.isAgg, h4 _ _ hc]
theorem sp_loadBA {T : TypeId} {x : Operand} {n off sz : Nat} {cells as_ : List AV} {y : NEnt} (ho : o.op = .load T x) (hy : IsBlk y n cells) (hx : ρ x = some (.ptr n off)) (hT : VarT P T sz true) (hc : (cells.drop off).take sz = as_) (hl : as_.length = sz) :
    OpSpec P o ρ [y] (.agg as_) [] :=
  .pure fun ev env W O R he hn => by
    obtain ⟨b, T', h1, h3, h4⟩ := blk_cell hy (hn _ (List.mem_singleton.2 rfl))
    have hld := run_loadCells_list (P := P) W ⟨b, off, none⟩ (AV.denL env as_) (fun j v hj => by
      rw [add_lit]
      have hj' : j < sz := by
        have := (List.getElem?_eq_some_iff.1 hj).1
        rw [denL_length] at this; omega
      subst hc
      rw [denL_take, denL_drop, List.getElem?_take_of_lt hj', List.getElem?_drop] at hj
      rw [AV.denL_map, List.getElem?_map] at hj
      cases hcell : cells[off + j]? with
      | none => rw [hcell] at hj; cases hj
      | some a => rw [hcell] at hj; cases hj; exact h4 _ _ hcell)
    rw [denL_length, hl] at hld
    simp [execOp, ho, he x _ hx, AV.den, h1, blockOff, Instr.loadAt, Instr.sureAddr, loadVar, hT.isAgg, hT.sizeOf, hld]
theorem sp_loadR {T : TypeId} {x : Operand} {n size i j k sz : Nat} {els : List (List D)} {el ds : List D} {y : NEnt} {a : AV} {ns : List NEnt} (ho : o.op = .load T x) (hx : ρ x = some (.cell n k)) (hy : IsRow y n size els) (hT : VarT P T sz false)
    (hk : k = i * size + j) (hi : els[i]? = some el) (hj : el[j]? = ds.head?) (hd : DAL ds [a] ns) (hns : (ns.map NEnt.name).Nodup) : OpSpec P o ρ [y] a ns := by
  intro ev env W O R he hn _ hR
  obtain ⟨ad, cap, h1, h2, h3, h4, h5⟩ := row_read hy (hn _ (List.mem_singleton.2 rfl))
  obtain ⟨d, hd1⟩ : ∃ d, ds = [d] := by
    cases hd with
    | v h => cases h; exact ⟨_, rfl⟩
    | s h => cases h; exact ⟨_, rfl⟩
  subst hd1
  obtain ⟨b, off, ha, _, u, hu, hok, _⟩ := (h5 i el hi).2 j d (by simpa using hj)
  subst ha
  obtain ⟨env', e1, e2, e3⟩ := hd.ok env W R [u] rfl (fun j' d' hj' => by
    cases j' with
    | zero => simp at hj'; subst hj'; exact ⟨u, rfl, hok⟩
    | succ j' => simp at hj') hns
  have hx' := he x _ hx
  simp only [AV.den, cellAt_eq h1, hk] at hx'
  have : (execOp ev o).run P W = .ok (.value u) W := by
    simp [execOp, ho, hx', Instr.loadAt, Instr.sureAddr, loadVar, hT.isAgg, hu]
  rw [this]
  refine ⟨env', _, R, e1, ?_, St.roNews hR e3 hns⟩
  simp only [AV.denL, List.cons.injEq] at e2
  exact e2.1.symm
theorem sp_loadRA {T : TypeId} {x : Operand} {n size i j k sz : Nat} {els : List (List D)} {el ds : List D} {y : NEnt} {as_ : List AV} {ns : List NEnt} (ho : o.op = .load T x) (hx : ρ x = some (.cell n k)) (hy : IsRow y n size els) (hT : VarT P T sz true)
    (hk : k = i * size + j) (hi : els[i]? = some el) (hj : (el.drop j).take sz = ds) (hl : ds.length = sz) (h0 : 0 < sz) (hd : DAL ds as_ ns) (hns : (ns.map NEnt.name).Nodup) : OpSpec P o ρ [y] (.agg as_) ns := by
  intro ev env W O R he hn _ hR
  obtain ⟨ad, cap, h1, h2, h3, h4, h5⟩ := row_read hy (hn _ (List.mem_singleton.2 rfl))
  have hget : ∀ (m : Nat) (d : D), ds[m]? = some d → el[j + m]? = some d := by
    intro m d hm
    have hlt : m < sz := by have := (List.getElem?_eq_some_iff.1 hm).1; omega
    subst hj
    rwa [List.getElem?_take_of_lt hlt, List.getElem?_drop] at hm
  obtain ⟨d0, hd0⟩ : ∃ d, ds[0]? = some d := ⟨ds[0]'(by omega), by simp⟩
  obtain ⟨b, off, ha, _⟩ := (h5 i el hi).2 (j + 0) d0 (hget 0 d0 hd0)
  subst ha
  have hu : ∀ m, m < sz → ∃ u, W.cell? ⟨b, off + (i * size + (j + m)), none⟩ = some u ∧ ∀ d, ds[m]? = some d → d.ok W R u := by
    intro m hm
    obtain ⟨d, hdm⟩ : ∃ d, ds[m]? = some d := ⟨ds[m]'(by omega), by simp⟩
    obtain ⟨b', o', ha', _, u, hu, hok, _⟩ := (h5 i el hi).2 (j + m) d (hget m d hdm)
    cases ha'
    exact ⟨u, hu, fun d' hd' => by rw [hdm] at hd'; cases hd'; exact hok⟩
  obtain ⟨us, hul, hus⟩ : ∃ us : List Value, us.length = sz ∧ ∀ m u, us[m]? = some u → W.cell? ⟨b, off + (i * size + (j + m)), none⟩ = some u ∧ ∀ d, ds[m]? = some d → d.ok W R u := by
    clear hd hl hget hd0 hT hj h0
    induction sz with
    | zero => exact ⟨[], rfl, by simp⟩
    | succ sz ih =>
      obtain ⟨us, h1, h2⟩ := ih (fun m hm => hu m (by omega))
      obtain ⟨u, hu1⟩ := hu sz (by omega)
      refine ⟨us ++ [u], by simp [h1], fun m v hm => ?_⟩
      rcases Nat.lt_or_ge m us.length with hlt | hge
      · rw [List.getElem?_append_left hlt] at hm; exact h2 m v hm
      · have : m = sz := by
          have := (List.getElem?_eq_some_iff.1 hm).1
          simp at this; omega
        subst this
        rw [List.getElem?_append_right hge] at hm
        simp [h1] at hm
        subst hm
        exact hu1
  obtain ⟨env', e1, e2, e3⟩ := hd.ok env W R us (by omega) (fun m d hm => by
    have hlt : m < us.length := by have := (List.getElem?_eq_some_iff.1 hm).1; omega
    exact ⟨us[m], by simp, (hus m us[m] (by simp)).2 d hm⟩) hns
  have hld := run_loadCells_list (P := P) W ⟨b, off + k, none⟩ us (fun m v hm => by
    rw [add_lit]
    have := (hus m v hm).1
    rw [hk, show off + (i * size + j) + m = off + (i * size + (j + m)) by omega]; exact this)
  rw [hul] at hld
  have hx' := he x _ hx
  simp only [AV.den, cellAt_eq h1] at hx'
  have : (execOp ev o).run P W = .ok (.value (.agg us.toArray)) W := by
    simp [execOp, ho, hx', Instr.loadAt, Instr.sureAddr, loadVar, hT.isAgg, hT.sizeOf, hld]
  rw [this]
  exact ⟨env', _, R, e1, by simp only [AV.den, e2], St.roNews hR e3 hns⟩
theorem sp_field {T : TypeId} {x : Operand} {f off ft sz : Nat} {cs : List AV} {a : AV} (ho : o.op = .field T x f) (hx : ρ x = some (.agg cs)) (hf : FieldT P T f off ft) (hT : VarT P ft sz false) (hc : cs[off]? = some a) : OpSpec P o ρ [] a [] :=
  .pure fun ev env W O R he _ => by
    obtain ⟨fs, fd, h1, h2, h3, h4⟩ := hf
    subst h3; subst h4
    simp [execOp, ho, he x _ hx, AV.den, Instr.field, run_underlying h1, h2, asAgg, part, hT.isAgg, denL_get hc]
theorem sp_fieldA {T : TypeId} {x : Operand} {f off ft sz : Nat} {cs as_ : List AV} (ho : o.op = .field T x f) (hx : ρ x = some (.agg cs)) (hf : FieldT P T f off ft) (hT : VarT P ft sz true) (hc : (cs.drop off).take sz = as_) : OpSpec P o ρ [] (.agg as_) [] :=
  .pure fun ev env W O R he _ => by
    obtain ⟨fs, fd, h1, h2, h3, h4⟩ := hf
    subst h3; subst h4; subst hc
    have : (AV.denL env cs).toArray.extract fd.offset (fd.offset + sz) = (AV.denL env ((cs.drop fd.offset).take sz)).toArray := by
      rw [denL_take, denL_drop]
      apply Array.ext'
      simp [List.extract_eq_take_drop]
    simp [execOp, ho, he x _ hx, AV.den, Instr.field, run_underlying h1, h2, asAgg, part, hT.isAgg, hT.sizeOf, denL_take, denL_drop]
theorem sp_fieldAddrB {T : TypeId} {x : Operand} {f off ft sz n k : Nat} {ag : Bool} {cells : List AV} {y : NEnt} (ho : o.op = .fieldAddr T x f) (hy : IsBlk y n cells) (hx : ρ x = some (.ptr n k)) (hf : FieldT P T f off ft) (hT : VarT P ft sz ag) (h0 : sz ≠ 0) :
    OpSpec P o ρ [y] (.ptr n (k + off)) [] :=
  .pure fun ev env W O R he hn => by
    obtain ⟨fs, fd, h1, h2, h3, h4⟩ := hf
    subst h3; subst h4
    obtain ⟨b, T', e1, _⟩ := blk_cell hy (hn _ (List.mem_singleton.2 rfl))
    simp [execOp, ho, he x _ hx, AV.den, Instr.fieldAt, run_underlying h1, h2, e1, blockOff, Instr.sureAddr, fieldPlace, hT.sizeOf, h0, add_lit]
theorem sp_fieldAddrR {T : TypeId} {x : Operand} {f off ft sz n k size i : Nat} {ag : Bool} {els : List (List D)} {el : List D} {y : NEnt} (ho : o.op = .fieldAddr T x f) (hx : ρ x = some (.cell n k)) (hy : IsRow y n size els) (hf : FieldT P T f off ft) (hT : VarT P ft sz ag) (h0 : sz ≠ 0)
    (hi : els[i]? = some el) (h1 : el ≠ []) : OpSpec P o ρ [y] (.cell n (k + off)) [] :=
  .pure fun ev env W O R he hn => by
    obtain ⟨fs, fd, h1', h2, h3, h4⟩ := hf
    subst h3; subst h4
    obtain ⟨ad, cap, g1, g2, g3, g4, g5⟩ := row_read hy (hn _ (List.mem_singleton.2 rfl))
    obtain ⟨d, hd⟩ : ∃ d, el[0]? = some d := by cases el with | nil => exact absurd rfl h1 | cons d l => exact ⟨d, rfl⟩
    obtain ⟨b, o', ha, _⟩ := (g5 i el hi).2 0 d hd
    subst ha
    simp [execOp, ho, he x _ hx, AV.den, Instr.fieldAt, run_underlying h1', h2, cellAt_eq g1, Instr.sureAddr, fieldPlace, hT.sizeOf, h0, add_lit, Nat.add_assoc]
theorem sp_indexS {T E : TypeId} {size bytes n : Nat} {x i : Operand} {k : IntKind} {iv : Int} {els : List (List D)} {el : List D} {y : NEnt} (ho : o.op = .indexAddr T x i) (hx : ρ x = some (.ref n)) (hi : ρ i = some (.val (.int k iv))) (hy : IsRow y n size els) (hT : SlT P T E size bytes)
    (h0 : decide (0 ≤ iv) = true) (he : els[iv.toNat]? = some el) : OpSpec P o ρ [y] (.cell n (iv.toNat * size)) [] :=
  .pure fun ev env W O R hev hn => by
    obtain ⟨ad, cap, g1, g2, g3, g4, g5⟩ := row_read hy (hn _ (List.mem_singleton.2 rfl))
    obtain ⟨ti, z, hti, _, hts, _, _⟩ := hT.info
    have h0' : 0 ≤ iv := of_decide_eq_true h0
    have hlt : iv.toNat < els.length := (List.getElem?_eq_some_iff.1 he).1
    have hlt' : iv < els.length := by omega
    cases ad with
    | none => have := g4 rfl; omega
    | some ad =>
      have hx' := hev x _ hx
      simp only [AV.den, g1, oneOf] at hx'
      simp [execOp, ho, hx', hev i _ hi, AV.den, Instr.indexAt, asIntOf, run_underlying hT.under, sizeOf, typeInfo, hti, hts, h0', hlt', g1, cellAt]
theorem sp_indexA {T E : TypeId} {size len n off : Nat} {ag : Bool} {x i : Operand} {k : IntKind} {iv : Int} {cells : List AV} {y : NEnt} (ho : o.op = .indexAddr T x i) (hy : IsBlk y n cells) (hx : ρ x = some (.ptr n off)) (hi : ρ i = some (.val (.int k iv))) (hT : P.underlying T = some (.array len E)) (hE : VarT P E size ag)
    (h0 : (decide (0 ≤ iv) && decide (iv < len)) = true) : OpSpec P o ρ [y] (.ptr n (off + iv.toNat * size)) [] :=
  .pure fun ev env W O R hev hn => by
    obtain ⟨b, T', e1, _⟩ := blk_cell hy (hn _ (List.mem_singleton.2 rfl))
    simp only [Bool.and_eq_true, decide_eq_true_eq] at h0
    simp [execOp, ho, hev x _ hx, hev i _ hi, AV.den, e1, blockOff, Instr.indexAt, asIntOf, run_underlying hT, Instr.sureAddr, hE.sizeOf, h0.1, h0.2, add_lit]
theorem sp_nilCheck {x : Operand} {n off : Nat} {cells : List AV} {y : NEnt} (ho : o.op = .nilCheck x) (hy : IsBlk y n cells) (hx : ρ x = some (.ptr n off)) : OpSpec P o ρ [y] (.ptr n off) [] :=
  .pure fun ev env W O R he hn => by
    obtain ⟨b, T', hb, _⟩ := blk_cell hy (hn _ (List.mem_singleton.2 rfl))
    simp [execOp, ho, he x _ hx, AV.den, hb, blockOff]
theorem sp_nilCheckF {x : Operand} {f : Nat} {fi ca : List AV} (ho : o.op = .nilCheck x) (hx : ρ x = some (.fn f fi ca)) : OpSpec P o ρ [] (.fn f fi ca) [] :=
  .pure fun ev env W O R he hn => by simp [execOp, ho, he x _ hx, AV.den]
theorem sp_index {T E : TypeId} {len : Nat} {x i : Operand} {k : IntKind} {iv : Int} {cs : List AV} {a : AV} (ho : o.op = .index T x i) (hx : ρ x = some (.agg cs)) (hi : ρ i = some (.val (.int k iv))) (hT : P.underlying T = some (.array len E)) (hE : VarT P E 1 false)
    (h0 : (decide (0 ≤ iv) && decide (iv < len)) = true) (hc : cs[iv.toNat]? = some a) : OpSpec P o ρ [] a [] :=
  .pure fun ev env W O R hev hn => by
    simp only [Bool.and_eq_true, decide_eq_true_eq] at h0
    simp [execOp, ho, hev x _ hx, hev i _ hi, AV.den, Instr.index, asIntOf, run_underlying hT, hE.sizeOf, h0.1, h0.2, part, hE.isAgg, denL_get hc]
theorem sp_len {T E : TypeId} {size n : Nat} {x : Operand} {els : List (List D)} {y : NEnt} (ho : o.op = .call { callee := .builtin .len, args := #[x], argTypes := #[T] }) (hx : ρ x = some (.ref n)) (hy : IsRow y n size els) (hT : P.underlying T = some (.slice E)) :
    OpSpec P o ρ [y] (.val (.int .i64 els.length)) [] :=
  .pure fun ev env W O R hev hn => by
    obtain ⟨ad, cap, g1, _⟩ := row_read hy (hn _ (List.mem_singleton.2 rfl))
    have hx' := hev x _ hx
    simp only [AV.den, g1, oneOf] at hx'
    simp [execOp, ho, resolve, invoke, builtin, hx', Builtin.len_, run_underlying hT, goInt, AV.den]
theorem sp_lenNil {T E : TypeId} {x : Operand} (ho : o.op = .call { callee := .builtin .len, args := #[x], argTypes := #[T] }) (hx : ρ x = some (.val (.slice none 0 0))) (hT : P.underlying T = some (.slice E)) :
    OpSpec P o ρ [] (.val (.int .i64 0)) [] :=
  .pure fun ev env W O R hev hn => by
    have hx' := hev x _ hx
    simp only [AV.den] at hx'
    simp [execOp, ho, resolve, invoke, builtin, hx', Builtin.len_, run_underlying hT, goInt, AV.den]
theorem sp_max {T U : TypeId} {x y : Operand} {k : IntKind} {m n : Int} (ho : o.op = .call { callee := .builtin .max, args := #[x, y], argTypes := #[T, U] }) (hx : ρ x = some (.val (.int k m))) (hy : ρ y = some (.val (.int k n))) :
    OpSpec P o ρ [] (.val (.int k (max m n))) [] :=
  .pure fun ev env W O R hev hn => by
    have hm : (if m < n then n else m) = max m n := by rw [Int.max_def]; split <;> split <;> omega
    simp [execOp, ho, resolve, invoke, builtin, hev x _ hx, hev y _ hy, Builtin.max_, Builtin.max2, AV.den, List.foldlM]
    first | exact hm | (rw [← hm]) | (rw [Int.max_def]; split <;> split <;> omega)
theorem sp_min {T U : TypeId} {x y : Operand} {k : IntKind} {m n : Int} (ho : o.op = .call { callee := .builtin .min, args := #[x, y], argTypes := #[T, U] }) (hx : ρ x = some (.val (.int k m))) (hy : ρ y = some (.val (.int k n))) :
    OpSpec P o ρ [] (.val (.int k (min m n))) [] :=
  .pure fun ev env W O R hev hn => by
    simp [execOp, ho, resolve, invoke, builtin, hev x _ hx, hev y _ hy, Builtin.min_, Builtin.min2, AV.den, List.foldlM]
    first | (rw [Int.min_def]; split <;> split <;> omega)
end
end Go.Proofs.Ytpjlihkpnhamlaa.Sy
end

/- The small logic of symbolic states: steps that only change what is known; stores, append; calls and returns. -/
section
set_option linter.unusedSimpArgs false
set_option linter.unusedVariables false
namespace Go.Proofs.Ytpjlihkpnhamlaa.Sy
open Go.RowKit

/-- the slots of a smaller state, found in a greater one under other names -/
def SubS (p : Nat → Nat) (s : List (Nat × AV)) : List (Nat × AV) → Prop
  | [] => True
  | (t, a) :: l => look s t = some (a.ren p) ∧ SubS p s l
theorem SubS.look {p : Nat → Nat} {s s' : List (Nat × AV)} (h : SubS p s s') {t : Nat} {a : AV} (ht : look s' t = some a) : Sy.look s t = some (a.ren p) := by
  induction s' with
  | nil => cases ht
  | cons x l ih =>
    obtain ⟨k, b⟩ := x
    simp only [Sy.look] at ht
    split at ht
    · rename_i e; subst e; cases ht; exact h.1
    · exact ih h.2 ht
def SubV (p : Nat → Nat) (V : List NEnt) : List NEnt → Prop
  | [] => True
  | x :: l => x.ren p ∈ V ∧ SubV p V l
theorem SubV.mem {p : Nat → Nat} {V V' : List NEnt} (h : SubV p V V') : ∀ x ∈ V', x.ren p ∈ V := by
  induction V' with
  | nil => simp
  | cons y l ih =>
    intro x hx
    rcases List.mem_cons.1 hx with rfl | hx
    · exact h.1
    · exact ih h.2 x hx
theorem mem_at {α : Type} {l : List α} {x : α} (i : Nat) (h : l[i]? = some x) : x ∈ l := List.mem_of_getElem? h

theorem nodup_map_name {p : Nat → Nat} {V' : List NEnt} (hn : (V'.map fun x => p x.name).Nodup) : ∀ x ∈ V', ∀ y ∈ V', x.name ≠ y.name → p x.name ≠ p y.name := by
  induction V' with
  | nil => simp
  | cons a l ih =>
    simp only [List.map_cons, List.nodup_cons, List.mem_map, not_exists, not_and] at hn
    intro x hx y hy hne
    rcases List.mem_cons.1 hx with e1 | h1 <;> rcases List.mem_cons.1 hy with e2 | h2
    · exact absurd (by rw [e1, e2]) hne
    · intro e; rw [e1] at e; exact hn.1 y h2 e.symm
    · intro e; rw [e2] at e; exact hn.1 x h1 e
    · exact ih hn.2 x h1 y h2 hne
theorem nodup_of_map {p : Nat → Nat} {V' : List NEnt} (hn : (V'.map fun x => p x.name).Nodup) : (V'.map NEnt.name).Nodup := by
  have h : V'.map (fun x => p x.name) = (V'.map NEnt.name).map p := by simp [List.map_map, Function.comp_def]
  rw [h] at hn
  exact (List.Pairwise.of_map p (fun a b hab e => hab (by rw [e])) hn)
theorem St.sub {c : Ctx} {env : Env} {V V' : List NEnt} {W : World} {O : Nat → Nat → Prop} {R : Nat → Prop} (h : St c env V W O R) (p : Nat → Nat) (hV : ∀ x ∈ V', x.ren p ∈ V) (hn : (V'.map fun x => p x.name).Nodup) :
    St c (fun n => env (p n)) V' W (fun n => O (p n)) R := by
  refine ⟨h.keep, fun x hx => ?_, fun x hx b hb => ?_, fun x hx y hy hne b hb => ?_, h.ro, h.r0, nodup_of_map hn⟩
  · have := h.holds _ (hV x hx)
    rw [NEnt.holds_ren, NEnt.name_ren] at this
    exact this
  · have := h.own _ (hV x hx) b
    rw [NEnt.name_ren] at this
    exact this hb
  · have := h.apart _ (hV x hx) _ (hV y hy) (by rw [NEnt.name_ren, NEnt.name_ren]; exact nodup_map_name hn x hx y hy hne) b
    rw [NEnt.name_ren, NEnt.name_ren] at this
    exact this hb

section
variable {P : Program} {c : Ctx} {sz : Nat} {Q : Exit → Act → World → Prop} {t : List Item} {s s' : List (Nat × AV)} {V V' : List NEnt} {ops : Array Oper} {rest : List Oper} {o : Oper}
theorem TC.sub (p : Nat → Nat) (h : TC P c sz Q t s' V') (hs : SubS p s s') (hV : SubV p V V') (hn : (V'.map fun x => p x.name).Nodup) : TC P c sz Q t s V := by
  intro env tm W O R hf hst
  refine h _ tm W _ R ⟨hf.1, fun t a ha => ?_⟩ (hst.sub p hV.mem hn)
  rw [hf.2 t _ (hs.look ha), AV.den_ren]

/-- a change of what is known about the same frame and world -/
theorem ghost {s' : List (Nat × AV)} {V' : List NEnt} (hg : ∀ env tm W O R, Fr env sz s tm → St c env V W O R → ∃ env' O' R', Fr env' sz s' tm ∧ St c env' V' W O' R') :
    (TC P c sz Q t s' V' → TC P c sz Q t s V) ∧ (TL P c sz Q ops rest t s' V' → TL P c sz Q ops rest t s V) :=
  ⟨fun h env tm W O R hf hst => let ⟨env', O', R', h1, h2⟩ := hg env tm W O R hf hst; h env' tm W O' R' h1 h2,
   fun h env tm W O R hf hst => let ⟨env', O', R', h1, h2⟩ := hg env tm W O R hf hst; h env' tm W O' R' h1 h2⟩

/-- one entry for another, over the same blocks -/
theorem St.setOne {c : Ctx} {env : Env} {V : List NEnt} {W : World} {O : Nat → Nat → Prop} {R : Nat → Prop} (h : St c env V W O R) (k : Nat) {x y : NEnt} (hk : V[k]? = some x) (hxy : y.name = x.name)
    (hy : ∀ O R, x.holds env W O R → y.holds env W O R) : St c env (V.set k y) W O R := by
  have hmem : ∀ z ∈ V.set k y, z = y ∨ z ∈ V := fun z hz => by
    rcases List.mem_or_eq_of_mem_set hz with h | h
    · exact .inr h
    · exact .inl h
  have hx : x ∈ V := List.mem_of_getElem? hk
  have hex : ∀ z ∈ V.set k y, ∃ z' ∈ V, z'.name = z.name := fun z hz => by
    rcases hmem z hz with rfl | h
    · exact ⟨x, hx, hxy.symm⟩
    · exact ⟨z, h, rfl⟩
  refine ⟨h.keep, fun z hz => ?_, fun z hz b hb => ?_, fun z hz z2 hz2 hne b hb => ?_, h.ro, h.r0, ?_⟩
  · rcases hmem z hz with rfl | hz
    · rw [hxy]; exact hy _ _ (h.holds x hx)
    · exact h.holds z hz
  · obtain ⟨z', hz', e⟩ := hex z hz
    rw [← e] at hb
    exact h.own z' hz' b hb
  · obtain ⟨z', hz', e⟩ := hex z hz
    obtain ⟨z2', hz2', e2⟩ := hex z2 hz2
    rw [← e, ← e2] at hb
    exact h.apart z' hz' z2' hz2' (by rw [e, e2]; exact hne) b hb
  · have : (V.set k y).map NEnt.name = V.map NEnt.name := by
      apply List.ext_getElem?
      intro i
      simp only [List.getElem?_map, List.getElem?_set]
      split
      · rename_i e; subst e
        split
        · rw [hk]; simp [hxy]
        · rename_i hlt
          rw [List.getElem?_eq_none (by omega)]
      · rfl
    rw [this]; exact h.names
/-- what is owned may be frozen: it is read from then on, and never written -/
def NEnt.toRo : NEnt → NEnt
  | .row n _ size els => .ro n size els
  | .blk n cells T => .rob n cells T
  | x => x
theorem NEnt.toRo_name (x : NEnt) : x.toRo.name = x.name := by cases x <;> rfl
theorem NEnt.toRo_has (x : NEnt) (n : Nat) : x.toRo.has n = x.has n := by cases x <;> rfl
theorem row_ro {n E size : Nat} {els : List (List D)} {env : Env} {W : World} {O R R' : Nat → Prop} (hO : ∀ b, O b → R' b) (hR : ∀ b, R b → R' b) (h : (NEnt.row n E size els).holds env W O R) : reads size els W R' (env n) := by
  obtain ⟨a, cap, h1, h2, h3, h4, h5⟩ := row_read isOwn h
  refine ⟨a, cap, h1, h2, h3, h4, fun i el hi => ⟨(h5 i el hi).1, fun j d hj => ?_⟩⟩
  obtain ⟨b, o, ha, hb, u, hu, hd, h1⟩ := (h5 i el hi).2 j d hj
  exact ⟨b, o, ha, hb.elim (hR b) (hO b), u, hu, d.mono W W R R' (fun b hb => ⟨hR b hb, rfl⟩) u hd, h1⟩
theorem NEnt.toRo_holds {x : NEnt} {env : Env} {W : World} {O R R' : Nat → Prop} (hO : ∀ b, O b → R' b) (hR : ∀ b, R b → R' b) (h : x.holds env W O R) (O' : Nat → Prop) : x.toRo.holds env W O' R' := by
  cases x with
  | row n E size els => exact row_ro hO hR h
  | blk n cells T => obtain ⟨b, h1, h2, h3⟩ := h; exact ⟨b, h1, hO b h2, h3⟩
  | ro n size els => exact reads_mono (fun b hb => ⟨hR b hb, rfl⟩) h
  | rob n cells T => obtain ⟨b, h1, h2, h3⟩ := h; exact ⟨b, h1, hR b h2, h3⟩
  | any n d => exact d.mono W W R R' (fun b hb => ⟨hR b hb, rfl⟩) _ h
theorem St.freeze {w0 : World} {R0 : Nat → Prop} {env : Env} {V : List NEnt} {W : World} {O : Nat → Nat → Prop} {R : Nat → Prop} (h : St ⟨w0, fun _ => False, R0⟩ env V W O R) (k : Nat) {x : NEnt} (hk : V[k]? = some x) :
    St ⟨w0, fun _ => False, R0⟩ env (V.set k x.toRo) W (fun n b => n ≠ x.name ∧ O n b) (fun b => R b ∨ O x.name b) := by
  classical
  have hx : x ∈ V := List.mem_of_getElem? hk
  have hmem : ∀ z ∈ V.set k x.toRo, z = x.toRo ∨ (z ∈ V) := fun z hz => by
    rcases List.mem_or_eq_of_mem_set hz with h | h
    · exact .inr h
    · exact .inl h
  have hnames : (V.set k x.toRo).map NEnt.name = V.map NEnt.name := by
    apply List.ext_getElem?
    intro i
    simp only [List.getElem?_map, List.getElem?_set]
    split
    · rename_i e; subst e
      split
      · rw [hk]; simp [NEnt.toRo_name]
      · rename_i hlt
        rw [List.getElem?_eq_none (by omega)]
    · rfl
  have hnd : ((V.set k x.toRo).map NEnt.name).Nodup := by rw [hnames]; exact h.names
  have hin : ∀ z ∈ V.set k x.toRo, z ≠ x.toRo → z.name ≠ x.name := by
    intro z hz hne e
    have h1 : x.toRo ∈ V.set k x.toRo := List.mem_of_getElem? (i := k) (by rw [List.getElem?_set_self]; exact (List.getElem?_eq_some_iff.1 hk).1)
    have : ∀ (l : List NEnt), (l.map NEnt.name).Nodup → ∀ a ∈ l, ∀ b ∈ l, a.name = b.name → a = b := by
      intro l
      induction l with
      | nil => simp
      | cons y l ih =>
        intro hn a ha b hb hab
        simp only [List.map_cons, List.nodup_cons, List.mem_map, not_exists, not_and] at hn
        rcases List.mem_cons.1 ha with e1 | h1 <;> rcases List.mem_cons.1 hb with e2 | h2
        · rw [e1, e2]
        · rw [e1] at hab; exact absurd hab.symm (hn.1 b h2)
        · rw [e2] at hab; exact absurd hab (hn.1 a h1)
        · exact ih hn.2 a h1 b h2 hab
    exact hne (this _ hnd z hz _ h1 (by rw [e, NEnt.toRo_name]))
  have hown : ∀ z ∈ V.set k x.toRo, ∀ b, (z.name ≠ x.name ∧ O z.name b) → z ∈ V := by
    intro z hz b ⟨hne, _⟩
    rcases hmem z hz with rfl | hz
    · exact absurd (NEnt.toRo_name x) hne
    · exact hz
  refine ⟨h.keep, fun z hz => ?_, fun z hz b hb => ?_, fun z hz z2 hz2 hne b hb => ?_, fun b hb => ?_, fun b hb => .inl (h.r0 b hb), hnd⟩
  · by_cases e : z = x.toRo
    · subst e
      exact NEnt.toRo_holds (O := O x.name) (R := R) (fun b hb => .inr hb) (fun b hb => .inl hb) (h.holds x hx) _
    · have hz' := (hmem z hz).resolve_left e
      have hne := hin z hz e
      have hh := h.holds z hz'
      have e2 : (fun b => z.name ≠ x.name ∧ O z.name b) = O z.name := by funext b; simp [hne]
      rw [e2]
      exact NEnt.holds_keep (fun _ _ => rfl) (fun b hb => ⟨.inl hb, rfl⟩) hh
  · have hz' := hown z hz b hb
    obtain ⟨h1, h2, h3⟩ := h.own z hz' b hb.2
    refine ⟨h1, h2, fun hr => hr.elim h3 (fun hox => h.apart z hz' x hx hb.1 b ⟨hb.2, hox⟩)⟩
  · exact h.apart z (hown z hz b hb.1) z2 (hown z2 hz2 b hb.2) hne b ⟨hb.1.2, hb.2.2⟩
  · rcases hb with hb | hb
    · exact h.ro b hb
    · obtain ⟨h1, h2, _⟩ := h.own x hx b hb
      exact ⟨h1, .inl (h2.resolve_right fun x => x)⟩
end
section
variable {P : Program} {w0 : World} {R0 : Nat → Prop} {sz : Nat} {Q : Exit → Act → World → Prop} {t : List Item} {s s' : List (Nat × AV)} {V V' : List NEnt} {ops : Array Oper} {rest : List Oper} {o : Oper}
theorem TC.freeze (k : Nat) {x : NEnt} (hk : V[k]? = some x) (h : TC P ⟨w0, fun _ => False, R0⟩ sz Q t s (V.set k x.toRo)) : TC P ⟨w0, fun _ => False, R0⟩ sz Q t s V :=
  fun env tm W O R hf hst => h env tm W _ _ hf (hst.freeze k hk)
theorem TL.freeze (k : Nat) {x : NEnt} (hk : V[k]? = some x) (h : TL P ⟨w0, fun _ => False, R0⟩ sz Q ops rest t s (V.set k x.toRo)) : TL P ⟨w0, fun _ => False, R0⟩ sz Q ops rest t s V :=
  fun env tm W O R hf hst => h env tm W _ _ hf (hst.freeze k hk)
end
section
variable {P : Program} {c : Ctx} {sz : Nat} {Q : Exit → Act → World → Prop} {t : List Item} {s s' : List (Nat × AV)} {V V' : List NEnt} {ops : Array Oper} {rest : List Oper} {o : Oper}
/-- an entry more, which owns nothing -/
theorem St.addRo {env : Env} {W : World} {O : Nat → Nat → Prop} {R : Nat → Prop} (h : St c env V W O R) {x : NEnt} {v : Value} (hf : hasV x.name V = false) (hh : ∀ O, x.holds (setEnv env x.name v) W O R) :
    St c (setEnv env x.name v) (x :: V) W (fun n b => n ≠ x.name ∧ O n b) R := by
  have hne : ∀ y ∈ V, y.name ≠ x.name := fun y hy e => by
    have := mem_has hy (NEnt.has_name y)
    rw [e, hf] at this; cases this
  refine ⟨h.keep, fun y hy => ?_, fun y hy b hb => ?_, fun y hy z hz hn b hb => ?_, h.ro, h.r0, ?_⟩
  · rcases List.mem_cons.1 hy with rfl | hy
    · exact hh _
    · have e2 : (fun b => y.name ≠ x.name ∧ O y.name b) = O y.name := by funext b; simp [hne y hy]
      rw [e2]
      exact NEnt.holds_congr (fun n hn => (setEnv_other fun e => by subst e; rw [mem_has hy hn] at hf; cases hf).symm) (h.holds y hy)
  · rcases List.mem_cons.1 hy with rfl | hy
    · exact absurd rfl hb.1
    · exact h.own y hy b hb.2
  · rcases List.mem_cons.1 hy with rfl | hy
    · exact hb.1.1 rfl
    · rcases List.mem_cons.1 hz with rfl | hz
      · exact hb.2.1 rfl
      · exact h.apart y hy z hz hn b ⟨hb.1.2, hb.2.2⟩
  · simp only [List.map_cons, List.nodup_cons]
    exact ⟨fun hm => by obtain ⟨y, hy, e⟩ := List.mem_map.1 hm; exact hne y hy e, h.names⟩
/-- a nil slice under a name -/
theorem nilRow (d n E size : Nat) (hs : look s d = some (.val (.slice none 0 0))) (hf : freshN [.row n E size []] s V = true) :
    (TC P c sz Q t ((d, .ref n) :: s) (.row n E size [] :: V) → TC P c sz Q t s V) ∧ (TL P c sz Q ops rest t ((d, .ref n) :: s) (.row n E size [] :: V) → TL P c sz Q ops rest t s V) := by
  have hf' : hasS n s = false ∧ hasV n V = false := by simpa [freshN, NEnt.name] using hf
  refine ghost fun env tm W O R hfr hst => ⟨setEnv env n (.slice none 0 0), _, R, ⟨hfr.1, fun t a ha => ?_⟩, hst.addRo (x := .row n E size []) (v := .slice none 0 0) hf'.2 fun O => ?_⟩
  · simp only [look] at ha
    split at ha
    · rename_i e; subst e; cases ha
      rw [hfr.2 _ _ hs]
      simp [AV.den, setEnv_same, oneOf]
    · rw [hfr.2 t a ha, AV.den_congr a (fun m hm => (setEnv_other (n := n) (m := m) fun e => by subst e; rw [look_has ha hm] at hf'; cases hf'.1).symm)]
  · simp only [NEnt.holds, NEnt.name, setEnv_same]
    exact ⟨by simp, [], World.ownsRow_nil _ _ _ _, by simp [Value.ownBlock], by simp⟩
theorem nilRo (d n size : Nat) (hs : look s d = some (.val (.slice none 0 0))) (hf : freshN [.ro n size []] s V = true) :
    (TC P c sz Q t ((d, .ref n) :: s) (.ro n size [] :: V) → TC P c sz Q t s V) ∧ (TL P c sz Q ops rest t ((d, .ref n) :: s) (.ro n size [] :: V) → TL P c sz Q ops rest t s V) := by
  have hf' : hasS n s = false ∧ hasV n V = false := by simpa [freshN, NEnt.name] using hf
  refine ghost fun env tm W O R hfr hst => ⟨setEnv env n (.slice none 0 0), _, R, ⟨hfr.1, fun t a ha => ?_⟩, hst.addRo (x := .ro n size []) (v := .slice none 0 0) hf'.2 fun O => ?_⟩
  · simp only [look] at ha
    split at ha
    · rename_i e; subst e; cases ha
      rw [hfr.2 _ _ hs]
      simp [AV.den, setEnv_same, oneOf]
    · rw [hfr.2 t a ha, AV.den_congr a (fun m hm => (setEnv_other (n := n) (m := m) fun e => by subst e; rw [look_has ha hm] at hf'; cases hf'.1).symm)]
  · simp only [NEnt.holds, NEnt.name, setEnv_same]
    exact ⟨none, 0, rfl, Nat.le_refl _, Nat.zero_le _, fun _ => rfl, by simp⟩
/-- a row of elements that read as other data, too -/
theorem TC.reRow (k : Nat) {n E size : Nat} {els els' : List (List D)} (hk : V[k]? = some (.row n E size els)) (he : els = els') (h : TC P c sz Q t s (V.set k (.row n E size els'))) : TC P c sz Q t s V := by
  subst he
  have : V.set k (.row n E size els) = V := by
    apply List.ext_getElem?
    intro i
    rw [List.getElem?_set]
    split
    · rename_i e; subst e; split
      · exact hk.symm
      · rename_i hlt; rw [List.getElem?_eq_none (by omega)]
    · rfl
  rwa [this] at h
end
end Go.Proofs.Ytpjlihkpnhamlaa.Sy
end

/- The small logic of symbolic states: stores and append. -/
section
set_option linter.unusedSimpArgs false
set_option linter.unusedVariables false
namespace Go.Proofs.Ytpjlihkpnhamlaa.Sy
open Go.RowKit

theorem nodup_name_eq : ∀ (l : List NEnt), (l.map NEnt.name).Nodup → ∀ (i j : Nat) (a b : NEnt), l[i]? = some a → l[j]? = some b → a.name = b.name → i = j := by
  intro l hn i j a b hi hj hab
  have hi' : (l.map NEnt.name)[i]? = some a.name := by simp [hi]
  have hj' : (l.map NEnt.name)[j]? = some a.name := by simp [hj, hab]
  have hlt : i < (l.map NEnt.name).length := (List.getElem?_eq_some_iff.1 hi').1
  exact (List.getElem?_inj hlt hn).1 (by rw [hi', hj'])
theorem mem_set_cases {V : List NEnt} (hn : (V.map NEnt.name).Nodup) {k : Nat} {x y z : NEnt} (hk : V[k]? = some x) (hz : z ∈ V.set k y) : z = y ∨ (z ∈ V ∧ z.name ≠ x.name) := by
  obtain ⟨i, hi⟩ := List.mem_iff_getElem?.1 hz
  rw [List.getElem?_set] at hi
  split at hi
  · split at hi
    · left; simpa using hi.symm
    · cases hi
  · rename_i hne
    exact .inr ⟨List.mem_of_getElem? hi, fun e => hne (nodup_name_eq V hn k i x z hk hi e.symm)⟩
theorem mem_erase_cases {V : List NEnt} (hn : (V.map NEnt.name).Nodup) {k : Nat} {x z : NEnt} (hk : V[k]? = some x) (hz : z ∈ V.eraseIdx k) : z ∈ V ∧ z.name ≠ x.name := by
  obtain ⟨i, hi⟩ := List.mem_iff_getElem?.1 hz
  rw [List.getElem?_eraseIdx] at hi
  split at hi
  · rename_i hlt; exact ⟨List.mem_of_getElem? hi, fun e => by have := nodup_name_eq V hn k i x z hk hi e.symm; omega⟩
  · rename_i hlt; exact ⟨List.mem_of_getElem? hi, fun e => by have := nodup_name_eq V hn k (i + 1) x z hk hi e.symm; omega⟩
theorem set_names {V : List NEnt} {k : Nat} {x y : NEnt} (hk : V[k]? = some x) (h : y.name = x.name) : (V.set k y).map NEnt.name = V.map NEnt.name := by
  apply List.ext_getElem?
  intro i
  simp only [List.getElem?_map, List.getElem?_set]
  split
  · rename_i e; subst e
    split
    · rw [hk]; simp [h]
    · rename_i hlt; rw [List.getElem?_eq_none (by omega)]
  · rfl
theorem St.write {c : Ctx} {env : Env} {V : List NEnt} {W W' : World} {O : Nat → Nat → Prop} {R : Nat → Prop} (h : St c env V W O R) (k : Nat) {x y : NEnt} (hk : V[k]? = some x) (hkeep : Keep (fun b => O x.name b) W W') (hyn : y.name = x.name)
    (hy : y.holds env W' (O x.name) R) : St c env (V.set k y) W' O R := by
  have hx : x ∈ V := List.mem_of_getElem? hk
  refine ⟨h.keep.trans hkeep (fun i hi ho => ?_), fun z hz => ?_, fun z hz b hb => ?_, fun z hz z2 hz2 hne b hb => ?_, fun b hb => ⟨Nat.lt_of_lt_of_le (h.ro b hb).1 hkeep.size, (h.ro b hb).2⟩, h.r0, by rw [set_names hk hyn]; exact h.names⟩
  · rcases (h.own x hx i ho).2.1 with h1 | h1
    · omega
    · exact h1
  · rcases mem_set_cases h.names hk hz with rfl | ⟨hz, hne⟩
    · rw [hyn]; exact hy
    · refine NEnt.holds_keep (fun b hb => ?_) (fun b hb => ⟨hb, ?_⟩) (h.holds z hz)
      · exact hkeep.block b (h.own z hz b hb).1 (fun ho => h.apart z hz x hx hne b ⟨hb, ho⟩)
      · exact hkeep.block b (h.ro b hb).1 (fun ho => (h.own x hx b ho).2.2 hb)
  · have : ∃ z' ∈ V, z'.name = z.name := by
      rcases mem_set_cases h.names hk hz with rfl | ⟨hz, _⟩
      · exact ⟨x, hx, hyn.symm⟩
      · exact ⟨z, hz, rfl⟩
    obtain ⟨z', hz', e⟩ := this
    rw [← e] at hb
    obtain ⟨h1, h2, h3⟩ := h.own z' hz' b hb
    exact ⟨Nat.lt_of_lt_of_le h1 hkeep.size, h2, h3⟩
  · have key : ∀ z ∈ V.set k y, ∃ z' ∈ V, z'.name = z.name := by
      intro z hz
      rcases mem_set_cases h.names hk hz with rfl | ⟨hz, _⟩
      · exact ⟨x, hx, hyn.symm⟩
      · exact ⟨z, hz, rfl⟩
    obtain ⟨z', hz', e⟩ := key z hz
    obtain ⟨z2', hz2', e2⟩ := key z2 hz2
    rw [← e, ← e2] at hb
    exact h.apart z' hz' z2' hz2' (by rw [e, e2]; exact hne) b hb
theorem St.replace {c : Ctx} {env : Env} {V : List NEnt} {W W' : World} {O : Nat → Nat → Prop} {R : Nat → Prop} (h : St c env V W O R) (k : Nat) {x y : NEnt} {v : Value} {Or : Nat → Prop} (hk : V[k]? = some x) (hkeep : Keep (fun b => O x.name b) W W')
    (hOr : ∀ b, Or b → (O x.name b ∨ W.heap.size ≤ b) ∧ b < W'.heap.size) (hf : hasV y.name V = false) (hy : y.holds (setEnv env y.name v) W' Or R) :
    ∃ O', St c (setEnv env y.name v) (y :: V.eraseIdx k) W' O' R := by
  classical
  have hx : x ∈ V := List.mem_of_getElem? hk
  have hne : ∀ z ∈ V, z.name ≠ y.name := fun z hz e => by
    have := mem_has hz (NEnt.has_name z)
    rw [e, hf] at this; cases this
  refine ⟨fun n b => if n = y.name then Or b else O n b, h.keep.trans hkeep (fun i hi ho => ?_), fun z hz => ?_, fun z hz b hb => ?_, fun z hz z2 hz2 hnn b hb => ?_,
    fun b hb => ⟨Nat.lt_of_lt_of_le (h.ro b hb).1 hkeep.size, (h.ro b hb).2⟩, h.r0, ?_⟩
  · rcases (h.own x hx i ho).2.1 with h1 | h1
    · omega
    · exact h1
  · rcases List.mem_cons.1 hz with rfl | hz
    · simpa using hy
    · obtain ⟨hz, hzx⟩ := mem_erase_cases h.names hk hz
      simp only [hne z hz, if_false]
      refine NEnt.holds_congr (fun n hn => (setEnv_other fun e => by subst e; rw [mem_has hz hn] at hf; cases hf).symm) (NEnt.holds_keep (fun b hb => ?_) (fun b hb => ⟨hb, ?_⟩) (h.holds z hz))
      · exact hkeep.block b (h.own z hz b hb).1 (fun ho => h.apart z hz x hx hzx b ⟨hb, ho⟩)
      · exact hkeep.block b (h.ro b hb).1 (fun ho => (h.own x hx b ho).2.2 hb)
  · rcases List.mem_cons.1 hz with rfl | hz
    · simp only [if_true] at hb
      obtain ⟨h1, h2⟩ := hOr b hb
      refine ⟨h2, ?_, ?_⟩
      · rcases h1 with h1 | h1
        · exact (h.own x hx b h1).2.1
        · exact .inl (Nat.le_trans h.keep.size h1)
      · intro hr
        rcases h1 with h1 | h1
        · exact (h.own x hx b h1).2.2 hr
        · have := (h.ro b hr).1; omega
    · obtain ⟨hz, _⟩ := mem_erase_cases h.names hk hz
      simp only [hne z hz, if_false] at hb
      obtain ⟨h1, h2, h3⟩ := h.own z hz b hb
      exact ⟨Nat.lt_of_lt_of_le h1 hkeep.size, h2, h3⟩
  · have key : ∀ z ∈ V, z.name ≠ x.name → ∀ b, O z.name b → Or b → False := by
      intro z hz hzx b hb ho
      rcases (hOr b ho).1 with h1 | h1
      · exact h.apart z hz x hx hzx b ⟨hb, h1⟩
      · have := (h.own z hz b hb).1; omega
    rcases List.mem_cons.1 hz with e1 | h1 <;> rcases List.mem_cons.1 hz2 with e2 | h2
    · exact hnn (by rw [e1, e2])
    · obtain ⟨hm2, hx2⟩ := mem_erase_cases h.names hk h2
      simp only [e1, if_true, hne z2 hm2, if_false] at hb
      exact key z2 hm2 hx2 b hb.2 hb.1
    · obtain ⟨hm1, hx1⟩ := mem_erase_cases h.names hk h1
      simp only [e2, if_true, hne z hm1, if_false] at hb
      exact key z hm1 hx1 b hb.1 hb.2
    · obtain ⟨hm1, _⟩ := mem_erase_cases h.names hk h1
      obtain ⟨hm2, _⟩ := mem_erase_cases h.names hk h2
      simp only [hne z hm1, hne z2 hm2, if_false] at hb
      exact h.apart z hm1 z2 hm2 hnn b hb
  · simp only [List.map_cons, List.nodup_cons]
    refine ⟨fun hm => ?_, ?_⟩
    · obtain ⟨z, hz, e⟩ := List.mem_map.1 hm
      exact hne z (mem_erase_cases h.names hk hz).1 e
    · exact h.names.sublist ((List.eraseIdx_sublist V k).map NEnt.name)

theorem take_splice {α : Type} (l : List α) (N k : Nat) (v : List α) (h : k + v.length ≤ N) (hN : N ≤ l.length) :
    (l.take k ++ v ++ l.drop (k + v.length)).take N = (l.take N).take k ++ v ++ (l.take N).drop (k + v.length) := by
  have h1 : min k l.length = k := by omega
  have h2 : min N k = k := by omega
  have h3 : min k N = k := by omega
  rw [List.append_assoc, List.take_append, List.take_append, List.length_take, h1, List.take_take, List.take_take, h2, h3, List.take_of_length_le (l := v) (by omega), List.drop_take, List.append_assoc]
  congr 3
  omega
theorem keep_setRow (W : World) (g : Nat) (cs : Array Value) (N : Nat → Prop) (h : N g) : Keep N W (W.setRow g cs) :=
  ⟨rfl, rfl, rfl, by simp [World.setRow], fun k hk hn => setRow_other W g k cs (fun e => hn (by rw [e]; exact h))⟩
section
variable {P : Program} {c : Ctx} {sz : Nat} {Q : Exit → Act → World → Prop} {t : List Item} {s : List (Nat × AV)} {V : List NEnt} {ops : Array Oper} {rest : List Oper} {o : Oper}
theorem coreB {ev : Operand → Value} {env : Env} {W : World} {O : Nat → Nat → Prop} {R : Nat → Prop} (hev : ∀ x a, rho s x = some a → ev x = a.den env) (hst : St c env V W O R) (k : Nat) {T n off : Nat} {x y : Operand} {cells : List AV} {T' : TypeId} {a : AV} (ho : o.op = .store T x y) (hx : rho s x = some (.ptr n off)) (hk : V[k]? = some (.blk n cells T')) (hy : rho s y = some a) (hfl : a.flat = true)
    (hT : ∀ w, (sizeOf T).run P w = .ok a.cs.length w) (hle : off + a.cs.length ≤ cells.length) : Does P ((execOp ev o).run P W) fun u W' => u = undef ∧ St c env (V.set k (.blk n (cells.take off ++ a.cs ++ cells.drop (off + a.cs.length)) T')) W' O R := by
  obtain ⟨b, h1, h2, h3⟩ := hst.holds _ (List.mem_of_getElem? hk)
  have hx' := hev _ _ hx
  have hy' := hev _ _ hy
  simp only [AV.den, h1, blockOff] at hx'
  have hcl : (a.den env).cells = (AV.denL env a.cs).toArray := AV.den_cells hfl env
  have hcs : (a.den env).cells.size = a.cs.length := by rw [hcl]; simp [denL_length]
  have hst' := run_storeCells_at P b off T' (AV.denL env a.cs) 0 (AV.denL env cells).toArray W h3 (by simp [denL_length]; omega) (denL_one (cs_all_one hfl))
  have hcur : ((AV.denL env cells).toArray.toList.take (off + 0) ++ AV.denL env a.cs ++ (AV.denL env cells).toArray.toList.drop (off + 0 + (AV.denL env a.cs).length)) = AV.denL env (cells.take off ++ a.cs ++ cells.drop (off + a.cs.length)) := by
    simp [denL_append, denL_take, denL_drop, denL_length]
  rw [hcur] at hst'
  have hrun : (execOp ev o).run P W = .ok .skip (W.setRow b (AV.denL env (cells.take off ++ a.cs ++ cells.drop (off + a.cs.length))).toArray) := by
    simp only [execOp, ho, Instr.storeAt, hx', hy', Instr.sureAddr, storeVar, Sem.run_bind, Sem.run_pure, Result.andThen_ok, hT, hcs, ne_eq, not_true, if_false]
    rw [show (a.den env).cells.toList = AV.denL env a.cs by rw [hcl]]
    simp only [hst', Result.andThen_ok, Sem.run_pure]
  rw [hrun]
  refine ⟨rfl, hst.write k hk (keep_setRow W b _ _ h2) rfl ⟨b, h1, h2, ?_⟩⟩
  exact setRow_heap W b _ _ T' (0, 0) h3
theorem TL.storeB (k : Nat) {T n off : Nat} {x y : Operand} {cells : List AV} {T' : TypeId} {a : AV} (ho : o.op = .store T x y) (hd : o.dst = none) (hw : Wanted ops s o) (hx : rho s x = some (.ptr n off)) (hk : V[k]? = some (.blk n cells T')) (hy : rho s y = some a) (hfl : a.flat = true)
    (hT : ∀ w, (sizeOf T).run P w = .ok a.cs.length w) (hle : off + a.cs.length ≤ cells.length) (h : TL P c sz Q ops rest t s (V.set k (.blk n (cells.take off ++ a.cs ++ cells.drop (off + a.cs.length)) T'))) : TL P c sz Q ops (o :: rest) t s V := by
  intro env tm W O R hfr hst
  unfold wpList
  rw [if_pos (wanted_of hfr hw)]
  refine .inl ((coreB (ev := Act.eval ⟨tm, []⟩) (fun x a hx => rho_eval hfr hx) hst k ho hx hk hy hfl hT hle).upon fun v W' ⟨_, hst'⟩ => ?_)
  show wpList P ops _ rest _ _
  rw [hd]
  exact h env tm W' O R hfr hst'
theorem els_set_get {size i : Nat} {els : List (List D)} {el' : List D} (hs : ∀ x ∈ els, x.length = size) (hel : el'.length = size) (hi : i < els.length) (h0 : 0 < size) (q : Nat) (d : D) (hq : (els.set i el').flatten[q]? = some d) :
    (∃ j, q = i * size + j ∧ j < size ∧ el'[j]? = some d) ∨ ((∀ j, j < size → q ≠ i * size + j) ∧ els.flatten[q]? = some d) := by
  have hs' : ∀ x ∈ els.set i el', x.length = size := fun x hx => by
    rcases List.mem_or_eq_of_mem_set hx with h | h
    · exact hs x h
    · rw [h]; exact hel
  have hlen : ∀ l : List (List D), (∀ x ∈ l, x.length = size) → l.flatten.length = l.length * size := by
    intro l
    induction l with
    | nil => simp
    | cons x l ih => intro hx; simp [hx x (by simp), ih (fun y hy => hx y (by simp [hy])), Nat.add_mul]; omega
  have hqlt : q < els.length * size := by
    have := (List.getElem?_eq_some_iff.1 hq).1
    rw [hlen _ hs'] at this; simpa using this
  have hdm := Nat.div_add_mod q size
  have hml := Nat.mod_lt q h0
  have hql : q / size < els.length := by
    rw [Nat.div_lt_iff_lt_mul h0]; exact hqlt
  have hqe : q = q / size * size + q % size := by rw [Nat.mul_comm]; omega
  by_cases e : q / size = i
  · left
    refine ⟨q % size, by rw [← e]; exact hqe, hml, ?_⟩
    rw [hqe, flatten_get (els.set i el') (q / size) (q % size) el' hs' (by rw [e, List.getElem?_set_self hi]) hml] at hq
    exact hq
  · right
    refine ⟨fun j hj hc => e ?_, ?_⟩
    · rw [hc, Nat.mul_comm, Nat.mul_add_div h0, Nat.div_eq_of_lt hj, Nat.add_zero]
    · have hget : els[q / size]? = some els[q / size] := by simp
      rw [hqe, flatten_get (els.set i el') (q / size) (q % size) els[q / size] hs' (by rw [List.getElem?_set_ne (Ne.symm e)]; exact hget) hml] at hq
      rw [hqe, flatten_get els (q / size) (q % size) els[q / size] hs hget hml]
      exact hq
theorem coreR {ev : Operand → Value} {env : Env} {W : World} {O : Nat → Nat → Prop} {R : Nat → Prop} (hev : ∀ x a, rho s x = some a → ev x = a.den env) (hst : St c env V W O R) (k : Nat) {T n kk i j size E : Nat} {x y : Operand} {els : List (List D)} {el ds : List D} {a : AV} {need : List NEnt} (ho : o.op = .store T x y) (hx : rho s x = some (.cell n kk)) (hk : V[k]? = some (.row n E size els))
    (hy : rho s y = some a) (hfl : a.flat = true) (hT : ∀ w, (sizeOf T).run P w = .ok a.cs.length w) (hkk : kk = i * size + j) (hi : els[i]? = some el) (hle : j + a.cs.length ≤ size) (hpos : 0 < size) (hneed : ∀ x ∈ need, x ∈ V) (had : ADL need a.cs ds) :
    Does P ((execOp ev o).run P W) fun u W' => u = undef ∧ St c env (V.set k (.row n E size (els.set i (el.take j ++ ds ++ el.drop (j + ds.length))))) W' O R := by
  have hxm : NEnt.row n E size els ∈ V := List.mem_of_getElem? hk
  obtain ⟨hs, cells, hown, hob, hcd⟩ := hst.holds _ hxm
  obtain ⟨hadl, hadk⟩ := had.ok (O := O) (R := R) (W := W) (env := env) (fun x hx => hst.holds x (hneed x hx))
  have hilt : i < els.length := (List.getElem?_eq_some_iff.1 hi).1
  have hel : el.length = size := hs el (List.mem_of_getElem? hi)
  rcases hown.2 with ⟨hv, hn0⟩ | ⟨g, cap, cur, hv, _, hg, hnc, hcm, hcs, htk⟩
  · omega
  have hOg : O n g := hob g (by rw [hv]; rfl)
  have hcl : (a.den env).cells = (AV.denL env a.cs).toArray := AV.den_cells hfl env
  have hcz : (a.den env).cells.size = a.cs.length := by rw [hcl]; simp [denL_length]
  have hbound : kk + a.cs.length ≤ els.length * size := by
    have : (i + 1) * size ≤ els.length * size := Nat.mul_le_mul_right _ hilt
    rw [Nat.add_mul] at this; omega
  have hcap : els.length * size ≤ cap * size := Nat.mul_le_mul_right _ hnc
  have hone := denL_one (e := env) (cs_all_one hfl)
  have hst' := run_storeCells_at P g kk E (AV.denL env a.cs) 0 cur W hg (by rw [denL_length]; omega) hone
  have hx' := hev _ _ hx
  have hy' := hev _ _ hy
  simp only [AV.den, cellAt_eq hv, Nat.zero_add] at hx'
  have hrun : (execOp ev o).run P W = .ok .skip (W.setRow g (cur.toList.take (kk + 0) ++ AV.denL env a.cs ++ cur.toList.drop (kk + 0 + (AV.denL env a.cs).length)).toArray) := by
    simp only [execOp, ho, Instr.storeAt, hx', hy', Instr.sureAddr, storeVar, Sem.run_bind, Sem.run_pure, Result.andThen_ok, hT, hcz, ne_eq, not_true, if_false]
    rw [show (a.den env).cells.toList = AV.denL env a.cs by rw [hcl]]
    simp only [hst', Result.andThen_ok, Sem.run_pure]
  rw [hrun]
  have hel' : (el.take j ++ ds ++ el.drop (j + ds.length)).length = size := by
    simp only [List.length_append, List.length_take, List.length_drop]; omega
  refine ⟨rfl, hst.write k hk (keep_setRow W g _ _ hOg) rfl ?_⟩
  refine ⟨fun e he => ?_, (cells.take kk ++ AV.denL env a.cs ++ cells.drop (kk + a.cs.length)), ⟨?_, .inr ⟨g, cap, _, by rw [hv]; simp, Nat.zero_le _, setRow_heap W g _ _ E (0, 0) hg, by simpa using hnc, hcm, ?_, ?_⟩⟩, hob, fun q d hq => ?_⟩
  · rcases List.mem_or_eq_of_mem_set he with h | h
    · exact hs e h
    · rw [h]; exact hel'
  · have := hown.1
    simp only [List.length_append, List.length_take, List.length_drop, denL_length, List.length_set]; omega
  · simp only [List.size_toArray, List.length_append, List.length_take, List.length_drop, denL_length, Array.length_toList]; omega
  · have hcl2 : cells.length = els.length * size := hown.1
    rw [← htk]
    simp only [Nat.add_zero, denL_length, List.length_set]
    have hts := take_splice cur.toList (els.length * size) kk (AV.denL env a.cs) (by rw [denL_length]; omega) (by have := Array.length_toList (xs := cur); omega)
    rw [denL_length] at hts
    exact hts
  · rcases els_set_get hs hel' hilt hpos q d hq with ⟨j', rfl, hj', hd'⟩ | ⟨hno, hd'⟩
    · -- inside the element
      rcases Nat.lt_or_ge j' j with hlt | hge
      · rw [List.append_assoc, List.getElem?_append_left (by simp; omega), List.getElem?_take_of_lt hlt] at hd'
        have hf := flatten_get els i j' el hs hi hj'
        obtain ⟨u, hu, hok, h1⟩ := hcd (i * size + j') d (by rw [hf]; exact hd')
        refine ⟨u, ?_, d.mono W _ R R (fun b hb => ⟨hb, setRow_other W g b _ (fun e => ?_)⟩) u hok, h1⟩
        · rw [List.append_assoc, List.getElem?_append_left (by simp [hown.1]; omega), List.getElem?_take_of_lt (by omega)]; exact hu
        · subst e; exact (hst.own _ hxm b hOg).2.2 hb
      · rcases Nat.lt_or_ge j' (j + ds.length) with hlt2 | hge2
        · rw [List.append_assoc, List.getElem?_append_right (by simp; omega), List.getElem?_append_left (by simp; omega)] at hd'
          have e1 : j' - (el.take j).length = j' - j := by simp; omega
          rw [e1] at hd'
          obtain ⟨u, hu, hok⟩ := hadk (j' - j) d hd'
          refine ⟨u, ?_, d.mono W _ R R (fun b hb => ⟨hb, setRow_other W g b _ (fun e => ?_)⟩) u hok, hone u (List.mem_of_getElem? hu)⟩
          · rw [List.append_assoc, List.getElem?_append_right (by simp; omega), List.getElem?_append_left (by simp [denL_length, hown.1]; omega)]
            have e2 : i * size + j' - (cells.take kk).length = j' - j := by simp [hown.1]; omega
            rw [e2]; exact hu
          · subst e; exact (hst.own _ hxm b hOg).2.2 hb
        · rw [List.getElem?_append_right (by simp; omega), List.getElem?_drop] at hd'
          have e1 : j + ds.length + (j' - (el.take j ++ ds).length) = j' := by simp; omega
          rw [e1] at hd'
          have hf := flatten_get els i j' el hs hi hj'
          obtain ⟨u, hu, hok, h1⟩ := hcd (i * size + j') d (by rw [hf]; exact hd')
          refine ⟨u, ?_, d.mono W _ R R (fun b hb => ⟨hb, setRow_other W g b _ (fun e => ?_)⟩) u hok, h1⟩
          · rw [List.getElem?_append_right (by simp [denL_length, hown.1]; omega), List.getElem?_drop]
            have e2 : kk + a.cs.length + (i * size + j' - (cells.take kk ++ AV.denL env a.cs).length) = i * size + j' := by simp [denL_length, hown.1]; omega
            rw [e2]; exact hu
          · subst e; exact (hst.own _ hxm b hOg).2.2 hb
    · obtain ⟨u, hu, hok, h1⟩ := hcd q d hd'
      have hqlt : q < cells.length := (List.getElem?_eq_some_iff.1 hu).1
      refine ⟨u, ?_, d.mono W _ R R (fun b hb => ⟨hb, setRow_other W g b _ (fun e => ?_)⟩) u hok, h1⟩
      · rcases Nat.lt_or_ge q kk with hlt | hge
        · rw [List.append_assoc, List.getElem?_append_left (by simp [hown.1]; omega), List.getElem?_take_of_lt hlt]; exact hu
        · have : kk + a.cs.length ≤ q := by
            rcases Nat.lt_or_ge q (kk + a.cs.length) with hlt | h
            · exact absurd (show q = i * size + (q - i * size) by omega) (hno (q - i * size) (by omega))
            · exact h
          rw [List.getElem?_append_right (by simp [denL_length, hown.1]; omega), List.getElem?_drop]
          have e2 : kk + a.cs.length + (q - (cells.take kk ++ AV.denL env a.cs).length) = q := by simp [denL_length, hown.1]; omega
          rw [e2]; exact hu
      · subst e; exact (hst.own _ hxm b hOg).2.2 hb
theorem TL.storeR (k : Nat) {T n kk i j size E : Nat} {x y : Operand} {els : List (List D)} {el ds : List D} {a : AV} {need : List NEnt} (ho : o.op = .store T x y) (hd : o.dst = none) (hw : Wanted ops s o) (hx : rho s x = some (.cell n kk)) (hk : V[k]? = some (.row n E size els))
    (hy : rho s y = some a) (hfl : a.flat = true) (hT : ∀ w, (sizeOf T).run P w = .ok a.cs.length w) (hkk : kk = i * size + j) (hi : els[i]? = some el) (hle : j + a.cs.length ≤ size) (hpos : 0 < size) (hneed : ∀ x ∈ need, x ∈ V) (had : ADL need a.cs ds)
    (h : TL P c sz Q ops rest t s (V.set k (.row n E size (els.set i (el.take j ++ ds ++ el.drop (j + ds.length)))))) : TL P c sz Q ops (o :: rest) t s V := by
  intro env tm W O R hfr hst
  unfold wpList
  rw [if_pos (wanted_of hfr hw)]
  refine .inl ((coreR (ev := Act.eval ⟨tm, []⟩) (fun x a hx => rho_eval hfr hx) hst k ho hx hk hy hfl hT hkk hi hle hpos hneed had).upon fun v W' ⟨_, hst'⟩ => ?_)
  show wpList P ops _ rest _ _
  rw [hd]
  exact h env tm W' O R hfr hst'
end
end Go.Proofs.Ytpjlihkpnhamlaa.Sy
end

/- The small logic of symbolic states: append, cuts of slices, calls, returns, the entry of a function. -/
section
set_option linter.unusedSimpArgs false
set_option linter.unusedVariables false
namespace Go.Proofs.Ytpjlihkpnhamlaa.Sy
open Go.RowKit

/-- so many elements of so many bytes have room -/
def room (bytes n : Nat) : Bool := decide (n * bytes ≤ 140737488355328) && decide (n ≤ 140737488355327)
theorem flatten_len {α : Type} {size : Nat} : ∀ l : List (List α), (∀ x ∈ l, x.length = size) → l.flatten.length = l.length * size := by
  intro l
  induction l with
  | nil => simp
  | cons x l ih => intro hx; simp [hx x (by simp), ih (fun y hy => hx y (by simp [hy])), Nat.add_mul]; omega
theorem row_cells {x : NEnt} {n size : Nat} {els : List (List D)} {env : Env} {W : World} {O R : Nat → Prop} (hx : IsRow x n size els) (hpos : 0 < size) (h : x.holds env W O R) :
    ∃ a cap, env n = .slice a els.length cap ∧ (a = none → els = []) ∧ (∀ el ∈ els, el.length = size) ∧ ∃ us : List Value, us.length = els.length * size ∧ (∀ u ∈ us, u.oneCell' = true) ∧
      (∀ ad, a = some ad → ∀ j u, us[j]? = some u → W.cell? (ad.add j) = some u) ∧ ∀ (q : Nat) (d : D), els.flatten[q]? = some d → ∃ u : Value, us[q]? = some u ∧ d.ok W R u := by
  obtain ⟨a, cap, h1, h2, h3, h4, h5⟩ := row_read hx h
  have hs : ∀ el ∈ els, el.length = size := fun el he => by
    obtain ⟨i, hi⟩ := List.mem_iff_getElem?.1 he
    exact (h5 i el hi).1
  refine ⟨a, cap, h1, fun e => List.eq_nil_of_length_eq_zero (by have := h4 e; omega), hs, ?_⟩
  have key : ∀ q, q < els.length * size → ∃ u : Value, u.oneCell' = true ∧ (∀ ad, a = some ad → W.cell? (ad.add q) = some u) ∧ ∀ d : D, els.flatten[q]? = some d → d.ok W R u := by
    intro q hq
    have hml := Nat.mod_lt q hpos
    have hql : q / size < els.length := by rw [Nat.div_lt_iff_lt_mul hpos]; exact hq
    have hqe : q = q / size * size + q % size := by have := Nat.div_add_mod q size; rw [Nat.mul_comm]; omega
    have hget : els[q / size]? = some els[q / size] := by simp
    have hel := hs _ (List.getElem_mem hql)
    have hd : els[q / size][q % size]? = some (els[q / size][q % size]'(by omega)) := by simp
    obtain ⟨b, o, ha, _, u, hu, hok, h1c⟩ := (h5 _ _ hget).2 _ _ hd
    refine ⟨u, h1c, fun ad had => ?_, fun d hd' => ?_⟩
    · rw [ha] at had; cases had; rw [add_lit, hqe]
      have : q / size * size + q % size = q := hqe.symm
      rw [← hqe]; rw [this] at hu; exact hu
    · rw [hqe, flatten_get els _ _ _ hs hget hml, hd] at hd'
      cases hd'; exact hok
  obtain ⟨us, hul, hus⟩ : ∃ us : List Value, us.length = els.length * size ∧ ∀ (q : Nat) (u : Value), us[q]? = some u → u.oneCell' = true ∧ (∀ ad, a = some ad → W.cell? (ad.add q) = some u) ∧ ∀ d : D, els.flatten[q]? = some d → d.ok W R u := by
    generalize els.length * size = N at key
    induction N with
    | zero => exact ⟨[], rfl, by simp⟩
    | succ N ih =>
      obtain ⟨us, e1, e2⟩ := ih (fun q hq => key q (by omega))
      obtain ⟨u, hu⟩ := key N (by omega)
      refine ⟨us ++ [u], by simp [e1], fun q v hq => ?_⟩
      rcases Nat.lt_or_ge q us.length with hlt | hge
      · rw [List.getElem?_append_left hlt] at hq; exact e2 q v hq
      · have : q = N := by
          have := (List.getElem?_eq_some_iff.1 hq).1
          simp at this; omega
        subst this
        rw [List.getElem?_append_right hge] at hq
        simp [e1] at hq; subst hq; exact hu
  refine ⟨us, hul, fun u hu => ?_, fun ad had j u hj => (hus j u hj).2.1 ad had, fun q d hq => ?_⟩
  · obtain ⟨j, hj⟩ := List.mem_iff_getElem?.1 hu; exact (hus j u hj).1
  · have hlt : q < us.length := by
      have := (List.getElem?_eq_some_iff.1 hq).1
      rw [flatten_len _ hs] at this; omega
    exact ⟨us[q], by simp, (hus q us[q] (by simp)).2.2 d hq⟩
section
variable {P : Program} {c : Ctx} {sz : Nat} {Q : Exit → Act → World → Prop} {t : List Item} {s : List (Nat × AV)} {V : List NEnt} {ops : Array Oper} {rest : List Oper} {o : Oper}
theorem grown_keep {W W' : World} {v : Value} {N : Nat → Prop} (h : W.grownBy W' v.ownBlock) (hN : ∀ b, v.ownBlock = some b → N b) : Keep N W W' :=
  ⟨h.os, h.tape, h.output, h.size, fun k hk hn => h.block k hk (fun e => hn (hN k e.symm))⟩
theorem TL.append (k : Nat) {T E size bytes n m d : Nat} (r : Nat) {x y : Operand} {els els2 : List (List D)} {ym : NEnt} (ho : o.op = .call { callee := .builtin .append, args := #[x, y], argTypes := #[T, T] }) (hd : o.dst = some d) (hw : Wanted ops s o) (hlt : d < sz)
    (hx : rho s x = some (.ref n)) (hk : V[k]? = some (.row n E size els)) (hy : rho s y = some (.ref m)) (hm : ym ∈ V) (hym : IsRow ym m size els2) (hnm : m ≠ n) (hT : SlT P T E size bytes) (hroom : room bytes (els.length + els2.length) = true)
    (hf : freshN [.row r E size (els ++ els2)] s V = true) (h : TL P c sz Q ops rest t ((d, .ref r) :: s) (.row r E size (els ++ els2) :: V.eraseIdx k)) : TL P c sz Q ops (o :: rest) t s V := by
  intro env tm W O R hfr hst
  have hf' : hasS r s = false ∧ hasV r V = false := by simpa [freshN, NEnt.name] using hf
  simp only [room, Bool.and_eq_true, decide_eq_true_eq] at hroom
  have hxm : NEnt.row n E size els ∈ V := List.mem_of_getElem? hk
  obtain ⟨hs, cells, hown, hob, hcd⟩ := hst.holds _ hxm
  obtain ⟨a, cap, hv2, hnone, hs2, us, hul, hone, hcell, hok⟩ := row_cells hym hT.pos (hst.holds _ hm)
  obtain ⟨i, z, hi, hz, hsz, hby, hzs⟩ := hT.info
  have hvx : oneOf (env n) = env n := by
    rcases hown.2 with ⟨hv, _⟩ | ⟨g, cap, cur, hv, _⟩ <;> rw [hv] <;> rfl
  have hx' := rho_eval hfr hx
  have hy' := rho_eval hfr hy
  simp only [AV.den, hvx] at hx'
  simp only [AV.den, hv2, oneOf] at hy'
  -- what the run comes to
  have hrun : ∃ v' W', (Builtin.append_ #[T, T] o.type #[env n, .slice a els2.length cap]).run P W = .ok v' W' ∧ W'.ownsRow 0 E size v' (els.length + els2.length) (cells ++ us) ∧ W.grownBy W' (env n).ownBlock ∧
      ∀ b, v'.ownBlock = some b → (env n).ownBlock = some b ∨ W.heap.size ≤ b := by
    cases a with
    | none =>
      have he2 := hnone rfl
      subst he2
      have hus : us = [] := List.eq_nil_of_length_eq_zero (by simpa using hul)
      subst hus
      obtain ⟨_, _, h2, _, _, h4, _⟩ := row_read hym (hst.holds _ hm)
      have hc0 : cap = 0 := by
        rw [hv2] at h2; cases h2; exact h4 rfl
      subst hc0
      refine ⟨env n, W, run_append_owned_none (w := W) 0 T o.type E i size hT.under hi _ _ _ hown, by simpa using hown, ⟨rfl, rfl, rfl, Nat.le_refl _, fun _ _ _ => rfl⟩, fun b hb => .inl hb⟩
    | some ad =>
      obtain ⟨v', W', h1, h2, h3, _⟩ := run_append_own W 0 T o.type E i z size bytes hT.under hi hz hsz hby hzs hT.pos (env n) els.length cells hown ad els2.length cap us hul (hcell ad rfl) hone (by simp only [maxLen]; omega) hroom.1 (Nat.zero_le _)
      refine ⟨v', W', h1, h2, h3, fun b hb => ?_⟩
      subst hsz; subst hby
      have h63 : (els.length + els2.length : Nat) ≤ 9223372036854775807 := by omega
      rcases hown.2 with ⟨hv, hn0⟩ | ⟨g, cap2, cur, hv, _, hg, hnc, hcm, hcs, htk⟩
      · rw [hv] at h1
        by_cases h0 : els2.length = 0
        · have hus : us = [] := List.eq_nil_of_length_eq_zero (by simpa [h0] using hul)
          have hl0 : els.length = 0 := hn0
          have : (Builtin.append_ #[T, T] o.type #[.slice none 0 0, .slice (some ad) els2.length cap]).run P W = .ok (.slice none 0 0) W := by
            rw [h0]
            simp [Builtin.append_, run_underlying hT.under, sizeOf, typeInfo, hi, Builtin.lenOf, Builtin.firstCells, loadCells, loadCellsFrom]
          rw [this] at h1
          cases h1
          simp [Value.ownBlock] at hb
        · have hr := run_append_nil (P := P) W T o.type E i z hT.under hi hz ad els2.length cap us hul (hcell ad rfl) (by omega) (by omega) (by have := hroom.1; rw [Nat.add_mul] at this; omega)
          rw [hr] at h1
          cases h1
          simp [Value.ownBlock] at hb
          exact .inr (by omega)
      · rw [hv] at h1 ⊢
        by_cases hroom2 : els.length + els2.length ≤ cap2
        · have hfit : els.length * i.size + us.length ≤ cur.size := by rw [hul, hcs, ← Nat.add_mul]; exact Nat.mul_le_mul_right _ hroom2
          have hr := run_append_room (P := P) W T o.type E i hT.under hi g els.length cap2 cur hg ad els2.length cap us hul (hcell ad rfl) hone hroom2 hfit
          rw [hr] at h1
          cases h1
          exact .inl hb
        · have holds : ∀ j u, cells[j]? = some u → W.cell? ((⟨g, 0, none⟩ : Addr).add j) = some u := World.ownsRow.cells hown (g := g) (by rw [hv]; rfl)
          have hr := run_append_grow (P := P) W T o.type E i z hT.under hi hz ⟨g, 0, none⟩ els.length cap2 cells hown.1 holds ad els2.length cap us hul (hcell ad rfl) (by omega) (by omega) (growslice_fits (by omega) hroom.1)
          rw [hr] at h1
          cases h1
          simp [Value.ownBlock] at hb
          exact .inr (by omega)
  obtain ⟨v', W', hrun, hown', hgrow, hblk⟩ := hrun
  unfold wpList
  rw [if_pos (wanted_of hfr hw)]
  refine .inl ?_
  show o.upon P _ _ _ _
  have hexec : (execOp (Act.eval ⟨tm, []⟩) o).run P W = .ok (.value v') W' := by
    simp only [execOp, ho, resolve, invoke, builtin, Sem.run_bind, Sem.run_pure, Result.andThen_ok, List.map_toArray, List.map_cons, List.map_nil, hx', hy', hrun]
  rw [hexec]
  show wpList P ops _ rest _ _
  rw [hd]
  have hkeep : Keep (fun b => O n b) W W' := grown_keep hgrow hob
  have hOn : ∀ b, (env n).ownBlock = some b → b < W.heap.size := fun b hb => (hst.own _ hxm b (hob b hb)).1
  have hvb : ∀ b, v'.ownBlock = some b → (O n b ∨ W.heap.size ≤ b) ∧ b < W'.heap.size := by
    intro b hb
    exact ⟨(hblk b hb).imp (hob b) id, (hown'.lt b hb).2⟩
  obtain ⟨O', hst'⟩ := hst.replace (y := .row r E size (els ++ els2)) (v := v') (Or := fun b => v'.ownBlock = some b) k hk hkeep hvb hf'.2 (by
    simp only [NEnt.name, NEnt.holds, setEnv_same]
    refine ⟨fun el he => (List.mem_append.1 he).elim (hs el) (hs2 el), cells ++ us, by simpa using hown', fun b hb => hb, fun q d hq => ?_⟩
    have hRk : ∀ b, R b → R b ∧ W'.heap[b]? = W.heap[b]? := fun b hb => ⟨hb, hkeep.block b (hst.ro b hb).1 (fun ho => (hst.own _ hxm b ho).2.2 hb)⟩
    have hfl := flatten_len els hs
    have hcl : cells.length = els.length * size := hown.1
    rw [List.flatten_append] at hq
    rcases Nat.lt_or_ge q els.flatten.length with hlt | hge
    · rw [List.getElem?_append_left hlt] at hq
      obtain ⟨u, hu, hok', h1⟩ := hcd q d hq
      exact ⟨u, by rw [List.getElem?_append_left (by omega)]; exact hu, d.mono W W' R R hRk u hok', h1⟩
    · rw [List.getElem?_append_right hge] at hq
      obtain ⟨u, hu, hok'⟩ := hok _ d hq
      exact ⟨u, by rw [List.getElem?_append_right (by omega), hcl, ← hfl]; exact hu, d.mono W W' R R hRk u hok', hone u (List.mem_of_getElem? hu)⟩)
  have hfr' : Fr (setEnv env r v') sz s tm := hfr.congr fun k hk => (setEnv_other (n := r) (m := k) fun e => by subst e; rw [hf'.1] at hk; cases hk).symm
  have hone' : oneOf v' = v' := by
    rcases hown'.2 with ⟨hv, _⟩ | ⟨g, cap, cur, hv, _⟩ <;> rw [hv] <;> rfl
  have := h _ _ W' O' R ((hfr'.put hlt (a := .ref r))) hst'
  simp only [AV.den, setEnv_same, hone'] at this
  exact this
end
end Go.Proofs.Ytpjlihkpnhamlaa.Sy
end

/- The small logic of symbolic states: cuts of slices, calls, returns, the entry of a function. -/
section
set_option linter.unusedSimpArgs false
set_option linter.unusedVariables false
namespace Go.Proofs.Ytpjlihkpnhamlaa.Sy
open Go.RowKit

section
variable {P : Program} {o : Oper} {ρ : Operand → Option AV}
/-- the ends of a cut -/
def Cut (ρ : Operand → Option AV) (x : Option Operand) (dflt z : Int) : Prop := match x with
  | none => z = dflt
  | some x => ∃ k, ρ x = some (.val (.int k z))
theorem cut_none {z : Int} : Cut ρ none z z := rfl
theorem cut_some {x : Operand} {d z : Int} {k : IntKind} (h : ρ x = some (.val (.int k z))) : Cut ρ (some x) d z := ⟨k, h⟩
theorem sp_slice {T E : TypeId} {size bytes n : Nat} (m : Nat) {x : Operand} {lo hi : Option Operand} {l h : Int} {els els' : List (List D)} (ho : o.op = .slice T x lo hi none) (hx : ρ x = some (.ref n)) (hT : SlT P T E size bytes)
    (hlo : Cut ρ lo 0 l) (hhi : Cut ρ hi els.length h) (hb : (decide (0 ≤ l) && (decide (l ≤ h) && decide (h ≤ els.length))) = true) (he : (els.take h.toNat).drop l.toNat = els') :
    OpSpec P o ρ [.ro n size els] (.ref m) [.ro m size els'] := by
  intro ev env W O R hev hn _ hR
  simp only [Bool.and_eq_true, decide_eq_true_eq] at hb
  obtain ⟨hb1, hb2, hb3⟩ := hb
  obtain ⟨h, rfl⟩ : ∃ h' : Nat, h = h' := ⟨h.toNat, by omega⟩
  obtain ⟨l, rfl⟩ : ∃ l' : Nat, l = l' := ⟨l.toNat, by omega⟩
  simp only [Int.toNat_natCast] at he
  have hro : reads size els W R (env n) := hn _ (List.mem_singleton.2 rfl)
  obtain ⟨a, cap, h1, h2, h3, h4, h5⟩ := hro
  obtain ⟨ti, z, hti, _, hts, _, _⟩ := hT.info
  have hx' := hev x _ hx
  simp only [AV.den, h1, oneOf] at hx'
  have hhc : h ≤ cap := by omega
  have hrun : (execOp ev o).run P W = .ok (.value (.slice (if cap = l then a else a.map (·.add (l * size))) (h - l) (cap - l))) W := by
    have hsb : ∀ (w : World), (Instr.sliceBounds true els.length cap (lo.map ev) (hi.map ev) none).run P w = .ok (l, h, cap) w := by
      intro w
      have hh : (match hi.map ev, (none : Option Value) with
          | some v, some _ => Instr.sliceBound v cap .slice3B
          | some v, none => Instr.sliceBound v cap .sliceAcap
          | none, none => pure els.length
          | none, some _ => stuck "Slice: max without high").run P w = .ok h w := by
        cases hi with
        | none => simp only [Cut] at hhi; simp; omega
        | some y => obtain ⟨k, hk⟩ := hhi; simp [hev y _ hk, AV.den, Instr.sliceBound, asIntOf, hhc]
      have hl : (match lo.map ev with
          | some v => Instr.sliceBound v h .sliceB
          | none => pure 0).run P w = .ok l w := by
        cases lo with
        | none => simp only [Cut] at hlo; simp; omega
        | some y => obtain ⟨k, hk⟩ := hlo; simp [hev y _ hk, AV.den, Instr.sliceBound, asIntOf, show l ≤ h by omega]
      cases hi <;> cases lo <;> simp [Instr.sliceBounds] at hh hl ⊢ <;> simp [hh, hl]
    simp only [execOp, ho, Instr.sliceAt, Instr.slice, Sem.run_bind, run_underlying hT.under, Result.andThen_ok, hx', Option.map_none, hsb, sizeOf, typeInfo, run_program, hti, hts, Sem.run_pure]
  rw [hrun]
  refine ⟨setEnv env m (.slice (if cap = l then a else a.map (·.add (l * size))) (h - l) (cap - l)), fun _ _ => False, R, fun k hk => setEnv_other (hk (.ro m size els') (by simp)), by simp [AV.den, setEnv_same, oneOf], ?_⟩
  refine St.fresh (Keep.refl _ W) hR ?_ (fun b hb => hb.elim)
  simp only [NEnt.holds, setEnv_same]
  have hlen : els'.length = h - l := by subst he; simp; omega
  refine ⟨_, cap - l, by rw [hlen], by omega, by omega, fun hnone => ?_, fun i el hi' => ?_⟩
  · split at hnone
    · omega
    · cases a with
      | none => have := h4 rfl; omega
      | some a => simp at hnone
  · subst he
    have hget : els[l + i]? = some el := by
      rw [List.getElem?_drop, List.getElem?_take] at hi'
      split at hi'
      · exact hi'
      · cases hi'
    refine ⟨(h5 _ _ hget).1, fun j d hj => ?_⟩
    obtain ⟨b, o', ha, hb', u, hu, hok⟩ := (h5 _ _ hget).2 j d hj
    subst ha
    have hilt : i < h - l := by
      have := (List.getElem?_eq_some_iff.1 hi').1; simp at this; omega
    rw [if_neg (by omega)]
    refine ⟨b, o' + l * size, by simp [add_lit], hb', u, ?_, hok⟩
    rw [show o' + l * size + (i * size + j) = o' + ((l + i) * size + j) by rw [Nat.add_mul]; omega]
    exact hu

/-- what a function does: from every world in which the entries hold -/
def Post (c : Ctx) (env : Env) (v : AV) (news : List NEnt) (e : Ending) (W' : World) : Prop := ∃ u, e = .returned u ∧ Got c env v news u W'
def FC (P : Program) (f : Nat) (args : List AV) (need : List NEnt) (v : AV) (news : List NEnt) : Prop :=
  ∀ (env : Env) (w0 : World) (R0 : Nat → Prop), (∀ x ∈ need, x.holds env w0 (fun _ => False) R0) → (∀ b, R0 b → b < w0.heap.size) →
    Calls P f (AV.denL env args).toArray w0 (Post ⟨w0, fun _ => False, R0⟩ env v news)
/-- an entry that says nothing about frozen blocks -/
def NEnt.indep (x : NEnt) : Prop := ∀ env W O R, x.holds env W O R → x.holds env W O (fun _ => False)
theorem indep_blk {n : Nat} {cells : List AV} {T : TypeId} : (NEnt.blk n cells T).indep := fun _ _ _ _ h => h
theorem indep_row {n E size : Nat} {els : List (List D)} (h : ∀ el ∈ els, ∀ d ∈ el, ∃ x, d = D.v x) : (NEnt.row n E size els).indep := by
  intro env W O R ⟨h1, cells, h2, h3, h4⟩
  refine ⟨h1, cells, h2, h3, fun k d hk => ?_⟩
  obtain ⟨u, hu, hok, hone⟩ := h4 k d hk
  obtain ⟨el, hel, hd⟩ := List.mem_flatten.1 (List.mem_of_getElem? hk)
  obtain ⟨x, rfl⟩ := h el hel d hd
  exact ⟨u, hu, hok, hone⟩
theorem indep_map {α : Type} {n E size : Nat} {xs : List α} {enc : α → List D} (h : ∀ a, ∀ d ∈ enc a, ∃ x, d = D.v x) : (NEnt.row n E size (xs.map enc)).indep :=
  indep_row fun el hel => by
    obtain ⟨a, _, rfl⟩ := List.mem_map.1 hel
    exact h a
theorem args_map {ev : Operand → Value} {env : Env} (he : ∀ x a, ρ x = some a → ev x = a.den env) : ∀ (l : List Operand) (m : List AV), l.map ρ = m.map some → l.map ev = AV.denL env m := by
  intro l
  induction l with
  | nil => intro m h; cases m <;> first | rfl | cases h
  | cons x l ih =>
    intro m h
    cases m with
    | nil => cases h
    | cons b m =>
      simp only [List.map_cons, List.cons.injEq] at h
      simp only [List.map_cons, AV.denL, he x b h.1, ih m h.2]
theorem sp_call {fo : Operand} {as_ : List Operand} {avs fi ca : List AV} {ats : Array TypeId} {f : Nat} {need news : List NEnt} {v : AV} (ho : o.op = .call { callee := .value fo, args := as_.toArray, argTypes := ats }) (hf : ρ fo = some (.fn f fi ca)) (has : as_.map ρ = avs.map some)
    (hc : ∀ args w, (callFunc f args).run P w = .ok (.enter f args) w) (hfc : FC P f (fi ++ avs ++ ca) (need.map NEnt.toRo) v news) (hb : (∀ x ∈ need, x.toRo = x) ∨ (∀ x ∈ news, x.indep)) : OpSpec P o ρ need v news := by
  intro ev env W O R hev hn hO hR
  have hfo := hev fo _ hf
  simp only [AV.den] at hfo
  have hargs := args_map hev as_ avs has
  have hrun : (execOp ev o).run P W = .ok (.enter f (AV.denL env (fi ++ avs ++ ca)).toArray) W := by
    simp only [execOp, ho, resolve, hfo, Deferred.ofValue, Sem.run_bind, Sem.run_pure, Result.andThen_ok, invoke, hc, List.map_toArray, hargs, denL_append, List.append_toArray]
  rw [hrun]
  rcases hb with hb | hb
  · refine (hfc env W R (fun x hx => ?_) hR).mono fun e W' ⟨u, he, hg⟩ => ⟨u, he, hg⟩
    obtain ⟨y, hy, rfl⟩ := List.mem_map.1 hx
    exact NEnt.toRo_holds (x := y.toRo) (O := fun _ => False) (R := R) (fun b hb => hb.elim) (fun b hb => hb) (by
      have h1 := hn y hy
      rw [hb y hy]
      cases y with
      | row n E size els => have := hb _ hy; simp [NEnt.toRo] at this
      | blk n cells T => have := hb _ hy; simp [NEnt.toRo] at this
      | ro n size els => exact h1
      | rob n cells T => exact h1
      | any n d => exact h1) _ |> fun h => by
        have e : y.toRo.toRo = y.toRo := by cases y <;> rfl
        rw [e] at h; exact h
  · refine (hfc env W (fun b => R b ∨ ∃ x ∈ need, O x.name b) (fun x hx => ?_) (fun b hb => hb.elim (hR b) (fun ⟨x, hx, h⟩ => hO x hx b h))).mono fun e W' ⟨u, he, env', O', R', h1, h2, hst⟩ => ⟨u, he, env', O', fun b => R b ∨ (R' b ∧ W.heap.size ≤ b), h1, h2, ?_⟩
    · obtain ⟨y, hy, rfl⟩ := List.mem_map.1 hx
      exact NEnt.toRo_holds (O := O y.name) (R := R) (fun b hb => .inr ⟨y, hy, hb⟩) (fun b hb => .inl hb) (hn y hy) _
    · refine ⟨hst.keep, fun x hx => ?_, fun x hx b hb' => ?_, hst.apart, fun b hb' => ?_, fun b hb' => .inl hb', hst.names⟩
      · exact NEnt.holds_keep (fun _ _ => rfl) (fun b hb => hb.elim) (hb x hx _ _ _ _ (hst.holds x hx))
      · obtain ⟨g1, g2, g3⟩ := hst.own x hx b hb'
        refine ⟨g1, g2, fun hr => hr.elim (fun hr => ?_) (fun hr => g3 hr.1)⟩
        rcases g2 with g2 | g2
        · have : W.heap.size ≤ b := g2
          have := hR b hr; omega
        · exact g2
      · rcases hb' with hb' | ⟨hb', hge⟩
        · exact ⟨Nat.lt_of_lt_of_le (hR b hb') hst.keep.size, .inr hb'⟩
        · exact ⟨(hst.ro b hb').1, .inl hge⟩
end

/-- the results of a function -/
inductive ResL (P : Program) (s : List (Nat × AV)) (V : List NEnt) : List ResultVar → List AV → Prop where
  | nil : ResL P s V [] []
  | tmp {t a l m} : look s t = some a → ResL P s V l m → ResL P s V (.tmp t :: l) (a :: m)
  | cell {t T n off sz cells y a l m} : look s t = some (.ptr n off) → y ∈ V → IsBlk y n cells → VarT P T sz false → cells[off]? = some a → ResL P s V l m → ResL P s V (.cell t T :: l) (a :: m)
  | cells {t T n off sz cells as_ y l m} : look s t = some (.ptr n off) → y ∈ V → IsBlk y n cells → VarT P T sz true → (cells.drop off).take sz = as_ → as_.length = sz → ResL P s V l m → ResL P s V (.cell t T :: l) (.agg as_ :: m)
def resAV : List AV → AV
  | [a] => a
  | l => .tup l
def resOne (tm : Array Value) : ResultVar → Sem Value
  | .tmp t => Pure.pure (tm.getD t undef)
  | .cell a t => do loadVar t (← asAddr (tm.getD a undef))
theorem results_eq (fn : Func) (tm : Array Value) : results fn tm = (do let vs ← fn.results.mapM (resOne tm); Pure.pure (if h : vs.size = 1 then vs[0] else .tuple vs)) := by
  unfold results
  congr 2
theorem results_run {P : Program} {c : Ctx} {s : List (Nat × AV)} {V : List NEnt} {l : List ResultVar} {m : List AV} (h : ResL P s V l m) {env : Env} {sz : Nat} {tm : Array Value} {W : World} {O : Nat → Nat → Prop} {R : Nat → Prop} (hf : Fr env sz s tm) (hst : St c env V W O R) :
    (l.mapM (resOne tm)).run P W = .ok (AV.denL env m) W := by
  induction h with
  | nil => rfl
  | tmp h1 _ ih =>
    have := hf.2 _ _ h1
    simp only [List.mapM_cons, Sem.run_bind, Result.andThen_ok, resOne, Sem.run_pure, ih]
    simp [this, AV.denL]
  | cell h1 hy hb hT hc _ ih =>
    have := hf.2 _ _ h1
    obtain ⟨b, T', e1, e2, e3⟩ := blk_cell hb (hst.holds _ hy)
    have h2 : ∀ x : ResultVar, ∀ t T, x = .cell t T → True := fun _ _ _ _ => trivial
    simp only [List.mapM_cons, Sem.run_bind]
    simp only [resOne]
    simp [this, AV.denL, AV.den, e1, blockOff, asAddr, loadVar, hT.isAgg, e3 _ _ hc, ih]
  | @cells t T n off sz' cells as_ y l m h1 hy hb hT hc hl _ ih =>
    have := hf.2 _ _ h1
    obtain ⟨b, T', e1, e2, e3⟩ := blk_cell hb (hst.holds _ hy)
    have hld := run_loadCells_list (P := P) W ⟨b, off, none⟩ (AV.denL env as_) (fun j v hj => by
      rw [add_lit]
      have hj' : j < sz' := by
        have := (List.getElem?_eq_some_iff.1 hj).1
        rw [denL_length] at this; omega
      subst hc
      rw [denL_take, denL_drop, List.getElem?_take_of_lt hj', List.getElem?_drop] at hj
      rw [AV.denL_map, List.getElem?_map] at hj
      cases hcell : cells[off + j]? with
      | none => rw [hcell] at hj; cases hj
      | some a => rw [hcell] at hj; cases hj; exact e3 _ _ hcell)
    rw [denL_length, hl] at hld
    simp only [List.mapM_cons, Sem.run_bind]
    simp only [resOne]
    simp [this, AV.denL, AV.den, e1, blockOff, asAddr, loadVar, hT.isAgg, hT.sizeOf, hld, ih]
mutual
def AV.ns : AV → List Nat
  | .val _ => []
  | .ref m => [m]
  | .ptr m _ => [m]
  | .cell m _ => [m]
  | .agg cs => AV.nsL cs
  | .tup cs => AV.nsL cs
  | .fn _ a b => AV.nsL a ++ AV.nsL b
def AV.nsL : List AV → List Nat
  | [] => []
  | a :: l => a.ns ++ AV.nsL l
end
mutual
theorem AV.has_ns {n : Nat} : ∀ (a : AV), a.has n = true → n ∈ a.ns
  | .val _, h => by cases h
  | .ref m, h => by simp [AV.has] at h; simp [AV.ns, h]
  | .ptr m _, h => by simp [AV.has] at h; simp [AV.ns, h]
  | .cell m _, h => by simp [AV.has] at h; simp [AV.ns, h]
  | .agg cs, h => AV.hasL_ns cs h
  | .tup cs, h => AV.hasL_ns cs h
  | .fn _ a b, h => by
    simp only [AV.has, Bool.or_eq_true] at h
    exact List.mem_append.2 (h.imp (AV.hasL_ns a) (AV.hasL_ns b))
theorem AV.hasL_ns {n : Nat} : ∀ (l : List AV), AV.hasL n l = true → n ∈ AV.nsL l
  | [], h => by cases h
  | a :: l, h => by
    simp only [AV.hasL, Bool.or_eq_true] at h
    exact List.mem_append.2 (h.imp (AV.has_ns a) (AV.hasL_ns l))
end
def NEnt.ns : NEnt → List Nat
  | .blk n cells _ => n :: AV.nsL cells
  | .row n _ _ _ => [n]
  | .ro n _ _ => [n]
  | .rob n cells _ => n :: AV.nsL cells
  | .any n _ => [n]
theorem NEnt.has_ns {n : Nat} {x : NEnt} (h : x.has n = true) : n ∈ x.ns := by
  cases x <;> simp only [NEnt.has, Bool.or_eq_true, beq_iff_eq] at h <;> simp only [NEnt.ns, List.mem_cons, List.not_mem_nil, or_false]
  · exact h.imp Eq.symm (AV.hasL_ns _)
  · exact h.symm
  · exact h.symm
  · exact h.imp Eq.symm (AV.hasL_ns _)
  · exact h.symm
/-- all names are those of the entries -/
def closedN (v : AV) (news : List NEnt) : Bool := (v.ns ++ news.flatMap NEnt.ns).all fun n => (news.map NEnt.name).contains n
section
variable {P : Program} {c : Ctx} {sz : Nat} {fn : Func} {t : List Item} {s : List (Nat × AV)} {V : List NEnt}
theorem Got.mk {env0 env : Env} {W : World} {O : Nat → Nat → Prop} {R : Nat → Prop} (hst : St c env V W O R) (p : Nat → Nat) {v rv : AV} {news : List NEnt} (hv : v.ren p = rv) (hV : SubV p V news) (hn : (news.map fun x => p x.name).Nodup) (hcl : closedN v news = true) :
    Got c env0 v news (rv.den env) W := by
  classical
  have hcl' : ∀ n, (n ∈ v.ns ∨ ∃ x ∈ news, n ∈ x.ns) → ∃ x ∈ news, x.name = n := by
    intro n hn
    have := List.all_eq_true.1 hcl n (by
      rw [List.mem_append, List.mem_flatMap]; exact hn)
    simpa [List.mem_map] using this
  refine ⟨fun n => if ∃ x ∈ news, x.name = n then env (p n) else env0 n, fun n => O (p n), R, fun n hn => ?_, ?_, ?_⟩
  · exact if_neg (by rintro ⟨x, hx, e⟩; exact hn x hx e)
  · subst hv
    rw [AV.den_ren]
    exact AV.den_congr v fun n hn => by rw [if_pos (hcl' n (.inl (AV.has_ns v hn)))]
  · have h2 := hst.sub p hV.mem hn
    exact ⟨h2.keep, fun x hx => NEnt.holds_congr (fun n hn => by rw [if_pos (hcl' n (.inr ⟨x, hx, NEnt.has_ns hn⟩))]) (h2.holds x hx), h2.own, h2.apart, h2.ro, h2.r0, h2.names⟩
theorem TC.ret {env0 : Env} (p : Nat → Nat) {v : AV} {news : List NEnt} {m : List AV} (hr : ResL P s V fn.results.toList m) (hv : v.ren p = resAV m) (hV : SubV p V news) (hn : (news.map fun x => p x.name).Nodup) (hcl : closedN v news = true) :
    TC P c sz (bodyPost P fn (Post c env0 v news)) (.code .ret :: t) s V := by
  intro env tm W O R hf hst
  refine Gw.ret ⟨rfl, (resAV m).den env, ?_, _, rfl, Got.mk hst p hv hV hn hcl⟩
  have h := results_run hr hf hst
  simp only [results_eq, Array.mapM_eq_mapM_toList, Sem.run_bind, Sem.run_map, h, Result.andThen_ok]
  cases m with
  | nil => rfl
  | cons a m => cases m with
    | nil => rfl
    | cons b m => rfl
theorem FC.intro {f : Nat} {body : Code} {args : List AV} {need news : List NEnt} {v : AV} (hf : P.funcs[f]? = some fn) (hb : fn.body = some body) (hsz : args.length + (fn.ntmps - args.length) = sz) (hnd : (need.map NEnt.name).Nodup)
    (h : ∀ (w0 : World) (R0 : Nat → Prop) (env0 : Env), TC P ⟨w0, fun _ => False, R0⟩ sz (bodyPost P fn (Post ⟨w0, fun _ => False, R0⟩ env0 v news)) [.code body] (args.zipIdx.map fun p => (p.2, p.1)) need) : FC P f args need v news := by
  intro env w0 R0 hn hR
  refine calls_of_wp hf hb ?_
  refine Gw.wp (h w0 R0 env env _ w0 (fun _ _ => False) R0 ⟨by simp [denL_length, ← hsz], fun t a ha => ?_⟩ ⟨Keep.refl _ _, hn, fun _ _ _ h => h.elim, fun _ _ _ _ _ _ h => h.1, fun b hb => ⟨hR b hb, .inr hb⟩, fun _ h => h, hnd⟩)
  have key : ∀ (l : List AV) (k : Nat), look ((l.zipIdx k).map fun p => (p.2, p.1)) t = some a → k ≤ t ∧ l[t - k]? = some a := by
    intro l
    induction l with
    | nil => intro k h; cases h
    | cons b l ih =>
      intro k h
      simp only [List.zipIdx_cons, List.map_cons, look] at h
      split at h
      · rename_i e; subst e; cases h; simp
      · obtain ⟨h1, h2⟩ := ih (k + 1) h
        refine ⟨by omega, ?_⟩
        rw [show t - k = (t - (k + 1)) + 1 by omega]
        simpa using h2
  obtain ⟨_, hk⟩ := key args 0 ha
  have := denL_get (e := env) hk
  simp only [Nat.sub_zero] at this
  rw [Array.getElem?_append_left (by simpa using (List.getElem?_eq_some_iff.1 this).1)]
  simpa using this
end
end Go.Proofs.Ytpjlihkpnhamlaa.Sy
end

/- The small logic of symbolic states: regions that draw their order. -/
section
set_option linter.unusedSimpArgs false
set_option linter.unusedVariables false
namespace Go.Proofs.Ytpjlihkpnhamlaa.Sy
open Go.RowKit

mutual
theorem AV.ren_id : ∀ (a : AV), a.ren id = a
  | .val _ => rfl
  | .ref _ => rfl
  | .ptr _ _ => rfl
  | .cell _ _ => rfl
  | .agg cs => by simp only [AV.ren, AV.renL_id cs]
  | .tup cs => by simp only [AV.ren, AV.renL_id cs]
  | .fn _ a b => by simp only [AV.ren, AV.renL_id a, AV.renL_id b]
theorem AV.renL_id : ∀ (l : List AV), AV.renL id l = l
  | [] => rfl
  | a :: l => by simp only [AV.renL, AV.ren_id a, AV.renL_id l]
end
theorem NEnt.ren_id (x : NEnt) : x.ren id = x := by cases x <;> simp [NEnt.ren, AV.renL_id]

/-- the operations that each one must come behind, as bits -/
def befStep (acc : List Nat) (o : Oper) : Nat := o.after.foldl (fun s e => if Region.binds .any e then s ||| 2 ^ e.on ||| acc.getD e.on 0 else s) 0
def befs : List Oper → List Nat → List Nat
  | [], acc => acc
  | o :: l, acc => befs l (acc ++ [befStep acc o])
/-- an operation must come behind another one -/
def anc (ops : Array Oper) (_ i j : Nat) : Bool := ((befs ops.toList []).getD i 0).testBit j
theorem befStep_bit {acc : List Nat} {o : Oper} {j : Nat} (h : (befStep acc o).testBit j = true) : ∃ e ∈ o.after, Region.binds .any e = true ∧ (e.on = j ∨ (acc.getD e.on 0).testBit j = true) := by
  unfold befStep at h
  rw [← Array.foldl_toList] at h
  have key : ∀ (l : List Edge) (s : Nat), (l.foldl (fun s e => if Region.binds .any e then s ||| 2 ^ e.on ||| acc.getD e.on 0 else s) s).testBit j = true →
      s.testBit j = true ∨ ∃ e ∈ l, Region.binds .any e = true ∧ (e.on = j ∨ (acc.getD e.on 0).testBit j = true) := by
    intro l
    induction l with
    | nil => intro s h; exact .inl h
    | cons e l ih =>
      intro s h
      rcases ih _ h with h | ⟨e', he', h'⟩
      · dsimp only at h
        split at h
        · rename_i hb
          rw [Nat.testBit_or, Nat.testBit_or, Nat.testBit_two_pow, Bool.or_eq_true, Bool.or_eq_true, decide_eq_true_eq] at h
          rcases h with (h | h) | h
          · exact .inl h
          · exact .inr ⟨e, by simp, hb, .inl h⟩
          · exact .inr ⟨e, by simp, hb, .inr h⟩
        · exact .inl h
      · exact .inr ⟨e', by simp [he'], h'⟩
  rcases key _ 0 h with h | ⟨e, he, h⟩
  · simp at h
  · exact ⟨e, Array.mem_toList_iff.1 he, h⟩
theorem befs_get : ∀ (l : List Oper) (acc : List Nat) (i : Nat), (i < acc.length → (befs l acc).getD i 0 = acc.getD i 0) ∧
    (∀ o, l[i]? = some o → ∃ pre : List Nat, (befs l acc).getD (acc.length + i) 0 = befStep pre o ∧ pre.length = acc.length + i ∧ ∀ k, k < acc.length + i → pre.getD k 0 = (befs l acc).getD k 0) := by
  intro l
  induction l with
  | nil => intro acc i; exact ⟨fun _ => rfl, fun o h => by simp at h⟩
  | cons o l ih =>
    intro acc i
    have hget : ∀ k, k < acc.length → (befs l (acc ++ [befStep acc o])).getD k 0 = acc.getD k 0 := fun k hk => by
      rw [(ih (acc ++ [befStep acc o]) k).1 (by simp; omega)]
      simp [hk, List.getElem?_append_left]
    refine ⟨hget i, fun o' ho' => ?_⟩
    cases i with
    | zero =>
      simp at ho'; subst ho'
      refine ⟨acc, ?_, by simp, fun k hk => (hget k (by omega)).symm⟩
      have := (ih (acc ++ [befStep acc o]) acc.length).1 (by simp)
      simp only [befs, Nat.add_zero, this]
      simp
    | succ i =>
      obtain ⟨pre, h1, h2, h3⟩ := (ih (acc ++ [befStep acc o]) i).2 o' (by simpa using ho')
      simp only [List.length_append, List.length_cons, List.length_nil, Nat.zero_add] at h1 h2 h3
      refine ⟨pre, ?_, by omega, fun k hk => h3 k (by omega)⟩
      simp only [befs]
      rw [← h1]; congr 1; omega
def Closed (ops : Array Oper) (S : Array Bool) : Prop := ∀ i o, ops[i]? = some o → S.getD i false = true → ∀ e ∈ o.after, Region.binds .any e = true → S.getD e.on false = true
theorem anc_done {ops : Array Oper} {S : Array Bool} (hc : Closed ops S) : ∀ (f i j : Nat), anc ops f i j = true → (S.getD i false = true ∨ i ∈ Region.ready .any ops S) → S.getD j false = true := by
  intro f i
  induction i using Nat.strongRecOn with
  | _ i ih =>
    intro j h hi
    simp only [anc] at h
    cases ho : ops[i]? with
    | none =>
      have hlt : ops.toList.length ≤ i := by simpa using Array.getElem?_eq_none_iff.1 ho
      have hlen : ∀ (l : List Oper) (acc : List Nat), (befs l acc).length = acc.length + l.length := by
        intro l
        induction l with
        | nil => intro acc; simp [befs]
        | cons o l ih => intro acc; simp only [befs, ih]; simp; omega
      rw [List.getD_eq_getElem?_getD, List.getElem?_eq_none (by rw [hlen]; simpa using hlt)] at h
      simp at h
    | some o =>
      obtain ⟨pre, h1, h2, h3⟩ := (befs_get ops.toList [] i).2 o (by simpa using ho)
      simp only [List.length_nil, Nat.zero_add] at h1 h2 h3
      rw [h1] at h
      obtain ⟨e, he, hb, hj⟩ := befStep_bit h
      have hdone : S.getD e.on false = true := by
        rcases hi with hi | hi
        · exact hc i o ho hi e he hb
        · obtain ⟨_, o', ho', hall⟩ := mem_ready.1 hi
          rw [ho] at ho'; cases ho'
          exact hall e he hb
      rcases hj with hj | hj
      · rw [← hj]; exact hdone
      · by_cases hlt : e.on < i
        · rw [h3 e.on hlt] at hj
          exact ih e.on hlt j hj (.inl hdone)
        · rw [List.getD_eq_getElem?_getD, List.getElem?_eq_none (by omega)] at hj
          simp at hj
/-- what an operation does to the state: it takes some entries away and lays others -/
def delV (del : List Nat) (V : List NEnt) : List NEnt := match del with
  | [] => V
  | _ => V.filter fun y => !del.contains y.name
theorem mem_delV {del : List Nat} {V : List NEnt} {x : NEnt} : x ∈ delV del V ↔ x ∈ V ∧ x.name ∉ del := by
  unfold delV
  split
  · simp
  · simp
theorem delV_sub (del : List Nat) (V : List NEnt) : (delV del V).Sublist V := by
  unfold delV
  split
  · exact List.Sublist.refl _
  · exact List.filter_sublist
def TSpec (P : Program) (o : Oper) (ρ : Operand → Option AV) (take keep : List NEnt) (v : AV) (news : List NEnt) : Prop :=
  ∀ (ev : Operand → Value) (c : Ctx) (env : Env) (V : List NEnt) (W : World) (O : Nat → Nat → Prop) (R : Nat → Prop), (∀ x a, ρ x = some a → ev x = a.den env) → St c env V W O R → (∀ x ∈ take, x ∈ V) → (∀ x ∈ keep, x ∈ V) →
    (∀ y ∈ news, y.name ∈ take.map NEnt.name ∨ hasV y.name V = false) →
    Does P ((execOp ev o).run P W) fun u W' => ∃ env' O' R', (∀ n, (∀ y ∈ news, y.name ∉ take.map NEnt.name → y.name ≠ n) → env' n = env n) ∧ u = v.den env' ∧ St c env' (news ++ delV (take.map NEnt.name) V) W' O' R'
theorem OpSpec.t {P : Program} {o : Oper} {ρ : Operand → Option AV} {need : List NEnt} {v : AV} {news : List NEnt} (h : OpSpec P o ρ need v news) : TSpec P o ρ [] need v news := by
  intro ev c env V W O R he hst _ hk hn
  refine (h ev env W O R he (fun x hx => hst.holds x (hk x hx)) (fun x hx b hb => (hst.own x (hk x hx) b hb).1) (fun b hb => (hst.ro b hb).1)).mono ?_
  rintro u W' ⟨env', O', R', he', hu, hg⟩
  obtain ⟨O2, h2, _⟩ := hst.next hg he' (fun x hx => (hn x hx).resolve_left (by simp))
  exact ⟨env', O2, R', fun n hn => he' n fun x hx => hn x hx (by simp), hu, h2⟩
theorem St.set_del {c : Ctx} {env : Env} {V : List NEnt} {W : World} {O : Nat → Nat → Prop} {R : Nat → Prop} {k : Nat} {x y : NEnt} (hk : V[k]? = some x) (hn : (V.map NEnt.name).Nodup) (he : y.name = x.name) (h : St c env (V.set k y) W O R) : St c env ([y] ++ delV [x.name] V) W O R := by
  refine h.sub (V' := [y] ++ delV [x.name] V) id (fun z hz => ?_) ?_
  · rw [NEnt.ren_id]
    rcases List.mem_cons.1 hz with rfl | hz
    · exact List.mem_iff_getElem?.2 ⟨k, by rw [List.getElem?_set_self (List.getElem?_eq_some_iff.1 hk).1]⟩
    · obtain ⟨h1, h2⟩ := mem_delV.1 hz
      obtain ⟨i, hi⟩ := List.mem_iff_getElem?.1 h1
      refine List.mem_iff_getElem?.2 ⟨i, ?_⟩
      rw [List.getElem?_set_ne]
      · exact hi
      · intro e; subst e; rw [hk] at hi; cases hi; simp at h2
  · simp only [List.cons_append, List.nil_append, List.map_cons, List.nodup_cons, id]
    refine ⟨fun hm => ?_, hn.sublist ((delV_sub _ _).map NEnt.name)⟩
    obtain ⟨z, hz, e⟩ := List.mem_map.1 hm
    exact (mem_delV.1 hz).2 (by rw [e, he]; simp)
section
variable {P : Program} {s : List (Nat × AV)} {o : Oper}
theorem ts_storeB {T n off : Nat} {x y : Operand} {cells cells' : List AV} {T' : TypeId} {a : AV} {N : Nat} {ag : Bool} {need : List NEnt} (ho : o.op = .store T x y) (hx : rho s x = some (.ptr n off)) (hy : rho s y = some a) (hfl : a.flat = true)
    (hT : VarT P T N ag) (hN : a.cs.length = N) (hle : Nat.ble (off + a.cs.length) cells.length = true) (hc : cells.take off ++ a.cs ++ cells.drop (off + a.cs.length) = cells') : TSpec P o (rho s) [.blk n cells T'] need (.val undef) [.blk n cells' T'] := by
  subst hc; subst hN
  intro ev c env V W O R he hst ht _ _
  obtain ⟨k, hk⟩ := List.mem_iff_getElem?.1 (ht _ (List.mem_singleton.2 rfl))
  refine (coreB he hst k ho hx hk hy hfl hT.sizeOf (Nat.le_of_ble_eq_true hle)).mono ?_
  rintro u W' ⟨rfl, h⟩
  exact ⟨env, O, R, fun _ _ => rfl, rfl, St.set_del hk hst.names rfl h⟩
theorem ts_storeR {T n kk size E : Nat} (i j : Nat) {x y : Operand} {els els' : List (List D)} {el ds : List D} {a : AV} {need : List NEnt} {N : Nat} {ag : Bool} (ho : o.op = .store T x y) (hx : rho s x = some (.cell n kk))
    (hy : rho s y = some a) (hfl : a.flat = true) (hT : VarT P T N ag) (hN : a.cs.length = N) (hkk : kk = i * size + j) (hi : els[i]? = some el) (hle : Nat.ble (j + a.cs.length) size = true) (hpos : Nat.blt 0 size = true) (had : ADL need a.cs ds)
    (hc : els.set i (el.take j ++ ds ++ el.drop (j + ds.length)) = els') : TSpec P o (rho s) [.row n E size els] need (.val undef) [.row n E size els'] := by
  subst hc; subst hN
  intro ev c env V W O R he hst ht hneed _
  obtain ⟨k, hk⟩ := List.mem_iff_getElem?.1 (ht _ (List.mem_singleton.2 rfl))
  refine (coreR he hst k ho hx hk hy hfl hT.sizeOf hkk hi (Nat.le_of_ble_eq_true hle) (by simpa [Nat.blt_eq] using hpos) hneed had).mono ?_
  rintro u W' ⟨rfl, h⟩
  exact ⟨env, O, R, fun _ _ => rfl, rfl, St.set_del hk hst.names rfl h⟩
end
/-- what an operation of such a region yields, in the text's order -/
structure DO where
  v : AV
  news : List NEnt
  need : List NEnt
  take : List NEnt := []
def DO.del (d : DO) : List Nat := d.take.map NEnt.name
def putS (o : Oper) (v : AV) (s : List (Nat × AV)) : List (Nat × AV) := match o.dst with
  | some d => (d, v) :: s
  | none => s
def sAfter : List Oper → List DO → List (Nat × AV) → List (Nat × AV)
  | o :: l, d :: ds, s => sAfter l ds (putS o d.v s)
  | _, _, s => s
def vAfter : List DO → List NEnt → List NEnt
  | d :: ds, V => vAfter ds (d.news ++ delV d.del V)
  | [], V => V
theorem look_sAfter {t : Nat} {a : AV} : ∀ (l : List Oper) (ds : List DO) (s : List (Nat × AV)), look (sAfter l ds s) t = some a →
    (∃ (j : Nat) (o : Oper) (d : DO), l[j]? = some o ∧ ds[j]? = some d ∧ o.dst = some t ∧ a = d.v) ∨ (look s t = some a ∧ ∀ (j : Nat) (o : Oper) (d : DO), l[j]? = some o → ds[j]? = some d → o.dst ≠ some t) := by
  intro l
  induction l with
  | nil => intro ds s h; exact .inr ⟨by cases ds <;> exact h, by simp⟩
  | cons o l ih =>
    intro ds s h
    cases ds with
    | nil => exact .inr ⟨h, by simp⟩
    | cons d ds =>
      rcases ih ds _ h with ⟨j, o', d', h1, h2, h3, h4⟩ | ⟨h1, h2⟩
      · exact .inl ⟨j + 1, o', d', by simpa using h1, by simpa using h2, h3, h4⟩
      · have hrest : ∀ (j : Nat) (o' : Oper) (d' : DO), o.dst ≠ some t → (o :: l)[j]? = some o' → (d :: ds)[j]? = some d' → o'.dst ≠ some t := by
          intro j o' d' e g1 g2
          cases j with
          | zero => simp at g1; subst g1; exact e
          | succ j => exact h2 j o' d' (by simpa using g1) (by simpa using g2)
        unfold putS at h1
        cases hd : o.dst with
        | none => rw [hd] at h1; exact .inr ⟨h1, fun j o' d' => hrest j o' d' (by rw [hd]; simp)⟩
        | some u =>
          rw [hd] at h1
          simp only [look] at h1
          split at h1
          · rename_i e; cases h1
            exact .inl ⟨0, o, d, rfl, rfl, by rw [hd, e], rfl⟩
          · rename_i e
            exact .inr ⟨h1, fun j o' d' => hrest j o' d' (by rw [hd]; simpa using e)⟩
theorem mem_vAfter {x : NEnt} : ∀ (ds : List DO) (V : List NEnt), x ∈ vAfter ds V → (x ∈ V ∧ ∀ (r : Nat) (d : DO), ds[r]? = some d → x.name ∉ d.del) ∨ ∃ (j : Nat) (d : DO), ds[j]? = some d ∧ x ∈ d.news ∧ ∀ (r : Nat) (d' : DO), j < r → ds[r]? = some d' → x.name ∉ d'.del := by
  intro ds
  induction ds with
  | nil => intro V h; exact .inl ⟨h, by simp⟩
  | cons d ds ih =>
    intro V h
    rcases ih _ h with ⟨h1, h2⟩ | ⟨j, d', h1, h2, h3⟩
    · rcases List.mem_append.1 h1 with h1 | h1
      · refine .inr ⟨0, d, rfl, h1, fun r d' hr hd => ?_⟩
        obtain ⟨r, rfl⟩ : ∃ k, r = k + 1 := ⟨r - 1, by omega⟩
        exact h2 r d' (by simpa using hd)
      · obtain ⟨g1, g2⟩ := mem_delV.1 h1
        refine .inl ⟨g1, fun r d' hd => ?_⟩
        cases r with
        | zero => simp at hd; subst hd; exact g2
        | succ r => exact h2 r d' (by simpa using hd)
    · refine .inr ⟨j + 1, d', by simpa using h1, h2, fun r d2 hr hd => ?_⟩
      obtain ⟨r, rfl⟩ : ∃ k, r = k + 1 := ⟨r - 1, by omega⟩
      exact h3 r d2 (by omega) (by simpa using hd)
/-- nobody takes away what an operation needs, if not behind it -/
def delOk (ops : Array Oper) (outs : List DO) (i : Nat) (j : Option Nat) (n : Nat) : Bool :=
  outs.zipIdx.all fun (d, r) => !d.del.contains n || r == i || anc ops ops.size r i || j == some r
/-- what an operation needs was there, or comes of one that it must come behind -/
def NeedOk (ops : Array Oper) (outs : List DO) (V : List NEnt) (i : Nat) (x : NEnt) : Prop :=
  (x ∈ V ∧ delOk ops outs i none x.name = true) ∨ ∃ (j : Nat) (d : DO), outs[j]? = some d ∧ anc ops ops.size i j = true ∧ x ∈ d.news ∧ delOk ops outs i (some j) x.name = true
/-- the operations one after another, in the text's order -/
inductive DAll (P : Program) (ops : Array Oper) (outs : List DO) (V : List NEnt) : Nat → List Oper → List DO → List (Nat × AV) → Prop where
  | nil {i l s} : DAll P ops outs V i l [] s
  | op {i o l d ds s} : Wanted ops s o → TSpec P o (rho s) d.take d.need d.v d.news → (∀ x ∈ d.take, NeedOk ops outs V i x) → (∀ x ∈ d.need, NeedOk ops outs V i x) → DAll P ops outs V (i + 1) l ds (putS o d.v s) → DAll P ops outs V i (o :: l) (d :: ds) s
  | skip {i o l d ds s} : Unwanted ops s o → d.v = .val undef → d.news = [] → d.take = [] → DAll P ops outs V (i + 1) l ds (putS o d.v s) → DAll P ops outs V i (o :: l) (d :: ds) s
theorem DAll.at {P : Program} {ops : Array Oper} {outs : List DO} {V : List NEnt} {i : Nat} {l : List Oper} {ds : List DO} {s : List (Nat × AV)} (h : DAll P ops outs V i l ds s) : ∀ (k : Nat) (o : Oper) (d : DO), l[k]? = some o → ds[k]? = some d →
    (Wanted ops (sAfter (l.take k) (ds.take k) s) o ∧ TSpec P o (rho (sAfter (l.take k) (ds.take k) s)) d.take d.need d.v d.news ∧ (∀ x ∈ d.take, NeedOk ops outs V (i + k) x) ∧ (∀ x ∈ d.need, NeedOk ops outs V (i + k) x)) ∨
    (Unwanted ops (sAfter (l.take k) (ds.take k) s) o ∧ d.v = .val undef ∧ d.news = [] ∧ d.take = []) := by
  induction h with
  | nil => intro k o d _ h; simp at h
  | op h1 h2 h3 h4 _ ih =>
    intro k o d ho hd
    cases k with
    | zero => simp at ho hd; subst ho; subst hd; exact .inl ⟨h1, h2, h3, h4⟩
    | succ k =>
      have := ih k o d (by simpa using ho) (by simpa using hd)
      simp only [List.take_succ_cons, sAfter]
      rw [show ∀ i : Nat, i + (k + 1) = i + 1 + k by omega]
      exact this
  | skip h1 h2 h3 h4 _ ih =>
    intro k o d ho hd
    cases k with
    | zero => simp at ho hd; subst ho; subst hd; exact .inr ⟨h1, h2, h3, h4⟩
    | succ k =>
      have := ih k o d (by simpa using ho) (by simpa using hd)
      simp only [List.take_succ_cons, sAfter]
      rw [show ∀ i : Nat, i + (k + 1) = i + 1 + k by omega]
      exact this
theorem DAll.len {P : Program} {ops : Array Oper} {outs : List DO} {V : List NEnt} {i : Nat} {l : List Oper} {ds : List DO} {s : List (Nat × AV)} (h : DAll P ops outs V i l ds s) : ds.length ≤ l.length := by
  induction h with
  | nil => simp
  | op _ _ _ _ _ ih => simpa using ih
  | skip _ _ _ _ _ ih => simpa using ih
/-- what can be told of the region's text alone -/
def dStatic (ops : Array Oper) (m sz : Nat) : Bool :=
  Region.noSelect ops && decide (m ≤ ops.size) &&
  ((List.range m).all fun i => match ops[i]? with
    | none => false
    | some o => (match o.dst with | some d => Nat.blt d sz | none => true) &&
      (List.range m).all fun j => match ops[j]? with
        | none => false
        | some o' => (i == j || o.dst == none || o.dst != o'.dst) && (match o'.dst with | some d => !(o.looksAt ops).contains d || (anc ops ops.size i j && Nat.blt j i) | none => true)) &&
  ((List.range ops.size).all fun i => match ops[i]? with | none => true | some o => o.after.all fun e => !Region.binds .any e || Nat.blt e.on i) &&
  ((List.range ops.size).all fun k => Nat.blt k m || (List.range k).all fun j => anc ops ops.size k j) &&
  Region.seqB .any ops (ops.size - m) m ((Array.range ops.size).map fun i => Nat.blt i m)
def outHas (n : Nat) (d : DO) : Bool := d.v.has n || hasV n d.news || d.del.contains n
/-- new names are new -/
def dFresh (ops : Array Oper) (outs : List DO) (s : List (Nat × AV)) (V : List NEnt) : Bool :=
  outs.zipIdx.all fun (d, i) => (d.news.all fun x => d.del.contains x.name || (!hasS x.name s && !hasV x.name V)) &&
    outs.zipIdx.all fun (d', j) => (i == j || ((d.news.all fun x => d.del.contains x.name || !outHas x.name d' || anc ops ops.size j i) &&
      d.del.all fun n => !d'.del.contains n && (!Nat.blt i j || d'.news.all fun x => x.name != n)))

theorem hasV_false {n : Nat} {V : List NEnt} (h : ∀ x ∈ V, x.has n = false) : hasV n V = false := by
  induction V with
  | nil => rfl
  | cons x l ih => simp only [hasV, h x (by simp), ih (fun y hy => h y (by simp [hy])), Bool.or_self]
theorem hasV_mem {n : Nat} {V : List NEnt} (h : hasV n V = false) {x : NEnt} (hx : x ∈ V) : x.has n = false := by
  cases e : x.has n with
  | false => rfl
  | true => rw [mem_has hx e] at h; cases h
structure DInv (l : List Oper) (outs : List DO) (m sz : Nat) (s : List (Nat × AV)) (V : List NEnt) (S : Array Bool) (env : Env) (tm : Array Value) (V' : List NEnt) : Prop where
  size : S.size = l.length
  closed : Closed l.toArray S
  tail : ∀ i, m ≤ i → S.getD i false = false
  tsz : tm.size = sz
  f0 : ∀ t a, look s t = some a → (∀ (j : Nat) (o : Oper), j < m → l[j]? = some o → o.dst = some t → S.getD j false = false) → tm[t]? = some (a.den env)
  f1 : ∀ (j : Nat) (o : Oper) (d : DO), l[j]? = some o → outs[j]? = some d → S.getD j false = true → ∀ dd, o.dst = some dd → tm[dd]? = some (d.v.den env)
  vm : ∀ x, x ∈ V' ↔ (x ∈ V ∨ ∃ (j : Nat) (d : DO), outs[j]? = some d ∧ S.getD j false = true ∧ x ∈ d.news) ∧ ∀ (r : Nat) (d : DO), outs[r]? = some d → S.getD r false = true → x.name ∈ d.del → x ∈ d.news
structure DStat (l : List Oper) (m sz : Nat) : Prop where
  nosel : Region.noSelect l.toArray = true
  le : m ≤ l.length
  dst : ∀ (i : Nat) (o : Oper), i < m → l[i]? = some o → ∀ d, o.dst = some d → d < sz
  dist : ∀ (i j : Nat) (o o' : Oper), i < m → j < m → l[i]? = some o → l[j]? = some o' → i ≠ j → ∀ d, o.dst = some d → o'.dst ≠ some d
  reads : ∀ (i j : Nat) (o o' : Oper) (d : Nat), i < m → j < m → l[i]? = some o → l[j]? = some o' → o'.dst = some d → d ∈ o.looksAt l.toArray → anc l.toArray l.length i j = true ∧ j < i
  edges : ∀ (i : Nat) (o : Oper), l[i]? = some o → ∀ e ∈ o.after, Region.binds .any e = true → e.on < i
  last : ∀ k, m ≤ k → k < l.length → ∀ j, j < k → anc l.toArray l.length k j = true
  seq : Region.seqB .any l.toArray (l.length - m) m ((Array.range l.length).map fun i => Nat.blt i m) = true
theorem dStat {l : List Oper} {m sz : Nat} (h : dStatic l.toArray m sz = true) : DStat l m sz := by
  simp only [dStatic, Bool.and_eq_true, decide_eq_true_eq, List.all_eq_true, List.mem_range, List.size_toArray] at h
  obtain ⟨⟨⟨⟨⟨h1, h2⟩, h3⟩, h4⟩, h5⟩, h6⟩ := h
  refine ⟨h1, h2, fun i o hi ho d hd => ?_, fun i j o o' hi hj ho ho' hne d hd => ?_, fun i j o o' d hi hj ho ho' hd hm => ?_, fun i o ho e he hb => ?_, fun k hk hlt j hj => ?_, h6⟩
  · have := h3 i hi
    simp only [List.getElem?_toArray, ho, Bool.and_eq_true] at this
    rw [hd] at this
    simpa [Nat.blt_eq] using this.1
  · have := h3 i hi
    simp only [List.getElem?_toArray, ho, Bool.and_eq_true, List.all_eq_true, List.mem_range] at this
    have := this.2 j hj
    simp only [ho', Bool.and_eq_true, Bool.or_eq_true, beq_iff_eq, hne, false_or, bne_iff_ne, hd] at this
    rcases this.1 with h | h
    · cases h
    · exact fun e => h e.symm
  · have := h3 i hi
    simp only [List.getElem?_toArray, ho, Bool.and_eq_true, List.all_eq_true, List.mem_range] at this
    have := this.2 j hj
    simp only [ho', hd, Bool.and_eq_true, Bool.or_eq_true, Bool.not_eq_true'] at this
    rcases this.2 with h | h
    · rw [List.contains_iff_mem.2 hm] at h; cases h
    · exact ⟨h.1, by simpa [Nat.blt_eq] using h.2⟩
  · have hlt : i < l.length := (List.getElem?_eq_some_iff.1 ho).1
    have := h4 i hlt
    simp only [List.getElem?_toArray, ho, Array.all_eq_true_iff_forall_mem, Bool.or_eq_true, Bool.not_eq_true'] at this
    have := this e he
    simp only [hb, Bool.true_eq_false, false_or] at this
    simpa [Nat.blt_eq] using this
  · have := h5 k hlt
    simp only [Bool.or_eq_true, List.all_eq_true, List.mem_range] at this
    rcases this with h | h
    · rw [Nat.blt_eq] at h; omega
    · exact h j hj
def cnt (S : Array Bool) : Nat → Nat
  | 0 => 0
  | m + 1 => cnt S m + (if S.getD m false then 0 else 1)
theorem cnt_ge (S : Array Bool) (i : Nat) : ∀ m, m ≤ i → cnt (S.setIfInBounds i true) m = cnt S m := by
  intro m
  induction m with
  | zero => intro _; rfl
  | succ m ih => intro h; simp only [cnt, ih (by omega)]; rw [getD_set_ne false (by omega)]
theorem cnt_set (S : Array Bool) (i : Nat) (hi : i < S.size) (h0 : S.getD i false = false) : ∀ m, i < m → cnt (S.setIfInBounds i true) m + 1 = cnt S m := by
  intro m
  induction m with
  | zero => intro h; omega
  | succ m ih =>
    intro h
    simp only [cnt]
    by_cases e : i = m
    · subst e
      rw [cnt_ge S i i (Nat.le_refl _), h0]
      have : (S.setIfInBounds i true).getD i false = true := by simp [hi]
      rw [this]; simp
    · rw [getD_set_ne false e]
      have := ih (by omega)
      omega
theorem cnt_zero (S : Array Bool) : ∀ m, cnt S m = 0 → ∀ j, j < m → S.getD j false = true := by
  intro m
  induction m with
  | zero => intro _ j h; omega
  | succ m ih =>
    intro h j hj
    simp only [cnt] at h
    rcases Nat.lt_or_ge j m with hlt | hge
    · exact ih (by omega) j hlt
    · have : j = m := by omega
      subst this
      by_cases e : S.getD j false = true
      · exact e
      · rw [if_neg e] at h; omega
theorem cnt_pos (S : Array Bool) : ∀ m, 0 < cnt S m → ∃ j, j < m ∧ S.getD j false = false ∧ ∀ k, k < j → S.getD k false = true := by
  intro m
  induction m with
  | zero => intro h; simp [cnt] at h
  | succ m ih =>
    intro h
    by_cases e : 0 < cnt S m
    · obtain ⟨j, h1, h2, h3⟩ := ih e
      exact ⟨j, by omega, h2, h3⟩
    · have e0 : cnt S m = 0 := by omega
      simp only [cnt, e0] at h
      refine ⟨m, by omega, ?_, cnt_zero S m e0⟩
      cases e : S.getD m false with
      | false => rfl
      | true => rw [e] at h; simp at h
section
variable {P : Program} {c : Ctx} {sz : Nat} {t : List Item} {s : List (Nat × AV)} {V : List NEnt} {l : List Oper} {outs : List DO} {m : Nat}
theorem DInv.slot (hd : DStat l m sz) (hl : outs.length = m) {S : Array Bool} {env : Env} {tm : Array Value} {V' : List NEnt} (inv : DInv l outs m sz s V S env tm V') {i : Nat} {o : Oper} (hi : i < m) (ho : l[i]? = some o) (hr : i ∈ Region.ready .any l.toArray S)
    {u : Nat} {a : AV} (hu : u ∈ o.looksAt l.toArray) (ha : look (sAfter (l.take i) (outs.take i) s) u = some a) : tm[u]? = some (a.den env) := by
  rcases look_sAfter _ _ _ ha with ⟨j, o', d, h1, h2, h3, rfl⟩ | ⟨h1, h2⟩
  · have hji : j < i := by
      have := (List.getElem?_eq_some_iff.1 h1).1
      rw [List.length_take] at this; omega
    rw [List.getElem?_take_of_lt hji] at h1 h2
    have hS := anc_done inv.closed _ i j (hd.reads i j o o' u hi (by omega) ho h1 h3 hu).1 (.inr hr)
    exact inv.f1 j o' d h1 h2 hS u h3
  · refine inv.f0 u a h1 fun j o' hj ho' hdst => ?_
    have hji := (hd.reads i j o o' u hi hj ho ho' hdst hu).2
    have hjo : (l.take i)[j]? = some o' := by rw [List.getElem?_take_of_lt hji]; exact ho'
    have hjd : (outs.take i)[j]? = some (outs[j]'(by omega)) := by rw [List.getElem?_take_of_lt hji]; simp
    exact absurd hdst (h2 j o' _ hjo hjd)
/-- what is needed is there when its turn comes -/
theorem DInv.there {S : Array Bool} {env : Env} {tm : Array Value} {V' : List NEnt} (inv : DInv l outs m sz s V S env tm V') {i : Nat} (hr : i ∈ Region.ready .any l.toArray S) {x : NEnt} (hx : NeedOk l.toArray outs V i x) : x ∈ V' := by
  have h0 : S.getD i false = false := getD_both (mem_ready.1 hr).1
  have key : ∀ jj : Option Nat, delOk l.toArray outs i jj x.name = true → ∀ (r : Nat) (d : DO), outs[r]? = some d → S.getD r false = true → x.name ∈ d.del → jj = some r := by
    intro jj hk r d hrd hS hm
    simp only [delOk, List.all_eq_true] at hk
    have hmem : (d, r) ∈ outs.zipIdx := List.mem_iff_getElem?.2 ⟨r, by rw [List.getElem?_zipIdx, hrd]; simp⟩
    have := hk (d, r) hmem
    simp only [Bool.or_eq_true, Bool.not_eq_true', beq_iff_eq] at this
    rcases this with ((h | h) | h) | h
    · rw [List.contains_iff_mem.2 hm] at h; cases h
    · subst h; rw [h0] at hS; cases hS
    · have := anc_done inv.closed _ r i h (.inl hS)
      rw [h0] at this; cases this
    · exact h
  rcases hx with ⟨h1, h2⟩ | ⟨j, d, h1, h2, h3, h4⟩
  · exact (inv.vm x).2 ⟨.inl h1, fun r d hrd hS hm => by cases key none h2 r d hrd hS hm⟩
  · have hS := anc_done inv.closed _ i j h2 (.inr hr)
    refine (inv.vm x).2 ⟨.inr ⟨j, d, h1, hS, h3⟩, fun r d' hrd hSr hm => ?_⟩
    have := key (some j) h4 r d' hrd hSr hm
    cases this
    rw [h1] at hrd; cases hrd; exact h3
theorem DInv.step (hd : DStat l m sz) (hl : outs.length = m) (hf : dFresh l.toArray outs s V = true) (hall : DAll P l.toArray outs V 0 l outs s) {S : Array Bool} {env : Env} {tm : Array Value} {V' : List NEnt} {W : World} {O : Nat → Nat → Prop} {R : Nat → Prop}
    (inv : DInv l outs m sz s V S env tm V') (hst : St c env V' W O R) {i : Nat} (hi : i < m) (hr : i ∈ Region.ready .any l.toArray S) {Q' : Exit → Act → World → Prop} {K : Act → World → Prop}
    (hk : ∀ env' tm' V'' W' O' R', DInv l outs m sz s V (S.setIfInBounds i true) env' tm' V'' → St c env' V'' W' O' R' → K ⟨tm', []⟩ W') : wpOp P l.toArray Q' i K ⟨tm, []⟩ W := by
  obtain ⟨h0, o, ho', hedge⟩ := mem_ready.1 hr
  have ho : l[i]? = some o := by simpa using ho'
  have hdlt := hd.dst i o hi ho
  have hid : outs[i]? = some (outs[i]'(by omega)) := by simp
  generalize hdef : outs[i]'(by omega) = d at hid
  have hS0 : S.getD i false = false := getD_both h0
  have hSsz : i < S.size := by rw [inv.size]; exact (List.getElem?_eq_some_iff.1 ho).1
  -- the new state
  have hS' : ∀ j, (S.setIfInBounds i true).getD j false = true → j = i ∨ S.getD j false = true := by
    intro j hj
    by_cases e : i = j
    · exact .inl e.symm
    · rw [getD_set_ne false e] at hj; exact .inr hj
  have hSi : (S.setIfInBounds i true).getD i false = true := by simp [hSsz]
  have hmono : ∀ j, S.getD j false = true → (S.setIfInBounds i true).getD j false = true := fun j hj => getD_set_true hj
  have hclosed : Closed l.toArray (S.setIfInBounds i true) := by
    intro j o' hj hjs e he hb
    rcases hS' j hjs with rfl | hjs
    · have : l.toArray[j]? = some o := ho'
      rw [this] at hj; cases hj
      exact hmono _ (hedge e he hb)
    · exact hmono _ (inv.closed j o' hj hjs e he hb)
  have htail : ∀ j, m ≤ j → (S.setIfInBounds i true).getD j false = false := fun j hj => by
    rw [getD_set_ne false (by omega)]; exact inv.tail j hj
  -- what the text says of this one and another one that is done
  have hpair : (∀ x ∈ d.news, x.name ∉ d.del → hasS x.name s = false ∧ hasV x.name V = false) ∧
      ∀ (j : Nat) (d' : DO), outs[j]? = some d' → S.getD j false = true → (∀ x ∈ d.news, x.name ∉ d.del → outHas x.name d' = false) ∧ ∀ n ∈ d.del, n ∉ d'.del := by
    simp only [dFresh, List.all_eq_true, Bool.and_eq_true, Bool.not_eq_true', Bool.or_eq_true, beq_iff_eq] at hf
    have hm : (d, i) ∈ outs.zipIdx := List.mem_iff_getElem?.2 ⟨i, by rw [List.getElem?_zipIdx, hid]; simp⟩
    obtain ⟨g1, g2⟩ := hf (d, i) hm
    refine ⟨fun x hx hxd => ?_, fun j d' hj hjs => ?_⟩
    · rcases g1 x hx with g | g
      · exact absurd (List.contains_iff_mem.1 g) hxd
      · exact g
    · have hm' : (d', j) ∈ outs.zipIdx := List.mem_iff_getElem?.2 ⟨j, by rw [List.getElem?_zipIdx, hj]; simp⟩
      have hno : anc l.toArray l.toArray.size j i = true → False := fun g => by
        have := anc_done inv.closed _ j i g (.inl hjs)
        rw [hS0] at this; cases this
      rcases g2 (d', j) hm' with g | g
      · have e : i = j := g
        subst e; rw [hS0] at hjs; cases hjs
      · refine ⟨fun x hx hxd => ?_, fun n hn hn' => ?_⟩
        · rcases g.1 x hx with (g | g) | g
          · exact absurd (List.contains_iff_mem.1 g) hxd
          · exact g
          · exact (hno g).elim
        · have := (g.2 n hn).1
          rw [List.contains_iff_mem.2 hn'] at this; cases this
  have hfrV : ∀ x ∈ d.news, x.name ∉ d.del → hasV x.name V' = false := by
    intro x hx hxd
    obtain ⟨g2, g3⟩ := hpair
    refine hasV_false fun y hy => ?_
    rcases ((inv.vm y).1 hy).1 with hy | ⟨j, d', h1, h2, h3⟩
    · exact hasV_mem (g2 x hx hxd).2 hy
    · have := (g3 j d' h1 h2).1 x hx hxd
      simp only [outHas, Bool.or_eq_false_iff] at this
      exact hasV_mem this.1.2 h3
  have hnext : ∀ (env' : Env) (u : Value) (tm' : Array Value) (W' : World) (O' : Nat → Nat → Prop) (R' : Nat → Prop), (∀ n, (∀ y ∈ d.news, y.name ∉ d.del → y.name ≠ n) → env' n = env n) → (∀ dd, o.dst = some dd → u = d.v.den env') → tm' = (match o.dst with | some dd => tm.setIfInBounds dd u | none => tm) → St c env' (d.news ++ delV d.del V') W' O' R' → K ⟨tm', []⟩ W' := by
    intro env' u tm' W' O' R' he hu htm hst'
    have hcong : ∀ a : AV, (∀ x ∈ d.news, x.name ∉ d.del → a.has x.name = false) → a.den env' = a.den env := fun a ha => AV.den_congr a fun n hn => he n fun x hx hxd e => by subst e; rw [ha x hx hxd] at hn; cases hn
    have htm0 : tm'.size = tm.size := by rw [htm]; split <;> simp
    have htm1 : ∀ t, o.dst ≠ some t → tm'[t]? = tm[t]? := fun t ht => by
      rw [htm]; split
      · rename_i dd e
        rw [Array.getElem?_setIfInBounds, if_neg (fun h => ht (by rw [e, h]))]
      · rfl
    refine hk env' _ _ W' O' R' ⟨by simpa using inv.size, hclosed, htail, by rw [htm0]; exact inv.tsz, fun t a ht hno => ?_, fun j o' d' hj hjd hjs dd' hdd' => ?_, fun x => ?_⟩ hst'
    · have hne : o.dst ≠ some t := fun e => by
        have := hno i o hi ho e
        rw [hSi] at this; cases this
      rw [htm1 t hne]
      rw [inv.f0 t a ht fun j o' hj ho'' hdst => by
        have := hno j o' hj ho'' hdst
        cases e : S.getD j false with
        | false => rfl
        | true => rw [hmono j e] at this; cases this]
      rw [hcong a fun x hx hxd => by
        cases e : a.has x.name with
        | false => rfl
        | true => have := look_has ht e; rw [(hpair.1 x hx hxd).1] at this; cases this]
    · rcases hS' j hjs with rfl | hjs'
      · rw [ho] at hj; cases hj
        rw [hid] at hjd; cases hjd
        rw [htm, hdd', Array.getElem?_setIfInBounds, if_pos rfl, if_pos (by rw [inv.tsz]; exact hdlt _ hdd'), hu _ hdd']
      · have hjm : j < m := by
          have := (List.getElem?_eq_some_iff.1 hjd).1; omega
        have hne : o.dst ≠ some dd' := fun e => hd.dist i j o o' hi hjm ho hj (fun e => by subst e; rw [hS0] at hjs'; cases hjs') dd' e hdd'
        rw [htm1 dd' hne, inv.f1 j o' d' hj hjd hjs' dd' hdd']
        rw [hcong d'.v fun x hx hxd => by
          have := (hpair.2 j d' hjd hjs').1 x hx hxd
          simp only [outHas, Bool.or_eq_false_iff] at this
          exact this.1.1]
    · rw [List.mem_append, mem_delV, inv.vm x]
      constructor
      · rintro (h | ⟨⟨h1, h2⟩, h3⟩)
        · refine ⟨.inr ⟨i, d, hid, hSi, h⟩, fun r d' hrd hrs hm => ?_⟩
          rcases hS' r hrs with rfl | hrs
          · rw [hid] at hrd; cases hrd; exact h
          · obtain ⟨g1, g2⟩ := hpair.2 r d' hrd hrs
            by_cases hxd : x.name ∈ d.del
            · exact absurd hm (g2 _ hxd)
            · have := g1 x h hxd
              simp only [outHas, Bool.or_eq_false_iff] at this
              rw [List.contains_iff_mem.2 hm] at this; cases this.2
        · refine ⟨?_, fun r d' hrd hrs hm => ?_⟩
          · rcases h1 with h1 | ⟨j, d', g1, g2, g3⟩
            · exact .inl h1
            · exact .inr ⟨j, d', g1, hmono j g2, g3⟩
          · rcases hS' r hrs with rfl | hrs
            · rw [hid] at hrd; cases hrd; exact absurd hm h3
            · exact h2 r d' hrd hrs hm
      · rintro ⟨h1, h2⟩
        by_cases hxd : x.name ∈ d.del
        · exact .inl (h2 i d hid hSi hxd)
        · rcases h1 with h1 | ⟨j, d', g1, g2, g3⟩
          · exact .inr ⟨⟨.inl h1, fun r d' hrd hrs hm => h2 r d' hrd (hmono r hrs) hm⟩, hxd⟩
          · rcases hS' j g2 with rfl | g2
            · rw [hid] at g1; cases g1; exact .inl g3
            · exact .inr ⟨⟨.inr ⟨j, d', g1, g2, g3⟩, fun r d' hrd hrs hm => h2 r d' hrd (hmono r hrs) hm⟩, hxd⟩
  have hslot : ∀ {u : Nat} {a : AV}, u ∈ o.looksAt l.toArray → look (sAfter (l.take i) (outs.take i) s) u = some a → tm[u]? = some (a.den env) := fun hu ha => inv.slot hd hl hi ho hr hu ha
  unfold wpOp
  simp only [ho']
  rcases hall.at i o d ho hid with ⟨hw, hspec, htake, hneed⟩ | ⟨hw, hv, hnews, htake⟩
  · have hwant : Region.wanted o (yielded l.toArray tm) = true := by
      unfold Wanted at hw; unfold Region.wanted
      split at hw <;> rename_i hg <;> simp only [hg]
      rename_i gj want
      obtain ⟨g, h1, h2⟩ := hw
      have h1' : (l[gj]?).bind (·.dst) = some g := by simpa using h1
      have hmem : g ∈ o.looksAt l.toArray := List.mem_append_right _ (by simp [hg, h1'])
      have := hslot hmem h2
      simp [yielded, h1', this, AV.den]
    rw [if_pos hwant]
    refine .inl ?_
    -- the operands as the text's order has them
    have hcongr : execOp (fun x => match rho (sAfter (l.take i) (outs.take i) s) x with | some a => a.den env | none => Act.eval ⟨tm, []⟩ x) o = execOp (Act.eval ⟨tm, []⟩) o := by
      refine execOp_congr o (fun cs b => Region.noSelect_spec hd.nosel i o cs b ho') fun x hx => ?_
      cases x with
      | tmp t =>
        simp only [rho]
        split
        · rename_i a ha
          have := hslot (List.mem_append_left _ (List.mem_filterMap.2 ⟨.tmp t, by simpa using hx, rfl⟩)) ha
          simp [Act.eval, this]
        · rfl
      | const v => rfl
      | global g => rfl
      | func f => rfl
    simp only [Nat.zero_add] at htake hneed
    have hD := hspec (fun x => match rho (sAfter (l.take i) (outs.take i) s) x with | some a => a.den env | none => Act.eval ⟨tm, []⟩ x) c env V' W O R (fun x a hx => by simp only [hx]) hst
      (fun x hx => inv.there hr (htake x hx)) (fun x hx => inv.there hr (hneed x hx))
      (fun y hy => by
        by_cases e : y.name ∈ d.del
        · exact .inl e
        · exact .inr (hfrV y hy e))
    rw [hcongr] at hD
    refine hD.upon ?_
    rintro u W' ⟨env', O', R', he, hu, hg⟩
    have hput : ({ tmps := tm, defers := [] } : Act).put o.dst u = ⟨match o.dst with | some dd => tm.setIfInBounds dd u | none => tm, []⟩ := by cases o.dst <;> rfl
    rw [hput]
    exact hnext env' u _ W' O' R' he (fun _ _ => hu) rfl hg
  · have hwant : Region.wanted o (yielded l.toArray tm) = false := by
      unfold Unwanted at hw; unfold Region.wanted
      split at hw
      · exact hw.elim
      · rename_i gj want hg
        simp only [hg]
        obtain ⟨g, h1, h2⟩ := hw
        have h1' : (l[gj]?).bind (·.dst) = some g := by simpa using h1
        have hmem : g ∈ o.looksAt l.toArray := List.mem_append_right _ (by simp [hg, h1'])
        rcases h2 with h2 | h2
        · have := hslot hmem h2
          simp [yielded, h1', this, AV.den]
        · have := hslot hmem h2
          simp [yielded, h1', this, AV.den, undef]
    rw [if_neg (by rw [hwant]; simp)]
    have hput : ({ tmps := tm, defers := [] } : Act).put o.dst undef = ⟨match o.dst with | some dd => tm.setIfInBounds dd undef | none => tm, []⟩ := by cases o.dst <;> rfl
    rw [hput]
    exact hnext env undef _ W O R (fun _ _ => rfl) (fun _ _ => by rw [hv]; rfl) rfl (by rw [hnews, show d.del = [] by simp [DO.del, htake]]; exact hst)
theorem draw_any {Q : Exit → Act → World → Prop} (hd : DStat l m sz) (hl : outs.length = m) (hf : dFresh l.toArray outs s V = true) (hall : DAll P l.toArray outs V 0 l outs s) (hnd : ((vAfter outs V).map NEnt.name).Nodup)
    (k : TL P c sz Q l.toArray (l.drop m) t (sAfter l outs s) (vAfter outs V)) : ∀ (f : Nat) (S : Array Bool) (env : Env) (tm : Array Value) (V' : List NEnt) (W : World) (O : Nat → Nat → Prop) (R : Nat → Prop),
    DInv l outs m sz s V S env tm V' → St c env V' W O R → cnt S m = f → wpAny P .any l.toArray (fun e a w => e = .normal ∧ Gw P t Q a w) (f + (l.length - m)) S ⟨tm, []⟩ W := by
  intro f
  induction f with
  | zero =>
    intro S env tm V' W O R inv hst hc
    have hdone := cnt_zero S m hc
    have hS : S = (Array.range l.length).map fun i => Nat.blt i m := by
      apply Array.ext
      · simp [inv.size]
      · intro i h1 h2
        simp only [Array.getElem_map, Array.getElem_range]
        have hg : S[i] = S.getD i false := by simp [h1]
        rw [hg]
        rcases Nat.lt_or_ge i m with hlt | hge
        · rw [hdone i hlt]; exact (show Nat.blt i m = true by rw [Nat.blt_eq]; exact hlt).symm
        · rw [inv.tail i hge]
          cases e : Nat.blt i m with
          | false => rfl
          | true => rw [Nat.blt_eq] at e; omega
    have hfr : Fr env sz (sAfter l outs s) tm := by
      refine ⟨inv.tsz, fun t a ha => ?_⟩
      rcases look_sAfter _ _ _ ha with ⟨j, o', d, h1, h2, h3, rfl⟩ | ⟨h1, h2⟩
      · have hjm : j < m := by have := (List.getElem?_eq_some_iff.1 h2).1; omega
        exact inv.f1 j o' d h1 h2 (hdone j hjm) t h3
      · refine inv.f0 t a h1 fun j o' hj ho' hdst => ?_
        exact absurd hdst (h2 j o' (outs[j]'(by omega)) ho' (by simp))
    have hst2 := hst.sub (V' := vAfter outs V) id (fun x hx => by
      rw [NEnt.ren_id]
      refine (inv.vm x).2 ?_
      rcases mem_vAfter outs V hx with ⟨h1, h2⟩ | ⟨j, d, h1, h2, h3⟩
      · exact ⟨.inl h1, fun r d hrd _ hm => absurd hm (h2 r d hrd)⟩
      · have hjm : j < m := by have := (List.getElem?_eq_some_iff.1 h1).1; omega
        refine ⟨.inr ⟨j, d, h1, hdone j hjm, h2⟩, fun r d' hrd _ hm => ?_⟩
        rcases Nat.lt_trichotomy r j with hlt | e | hgt
        · simp only [dFresh, List.all_eq_true, Bool.and_eq_true, Bool.not_eq_true', Bool.or_eq_true, beq_iff_eq] at hf
          have hm1 : (d', r) ∈ outs.zipIdx := List.mem_iff_getElem?.2 ⟨r, by rw [List.getElem?_zipIdx, hrd]; simp⟩
          have hm2 : (d, j) ∈ outs.zipIdx := List.mem_iff_getElem?.2 ⟨j, by rw [List.getElem?_zipIdx, h1]; simp⟩
          rcases (hf (d', r) hm1).2 (d, j) hm2 with g | g
          · have : r = j := g
            omega
          · rcases (g.2 _ hm).2 with g | g
            · have hlt' : Nat.blt r j = true := by rw [Nat.blt_eq]; exact hlt
              rw [hlt'] at g; cases g
            · simpa using g x h2
        · subst e; rw [h1] at hrd; cases hrd; exact h2
        · exact absurd hm (h3 r d' hgt hrd)) hnd
    rw [Nat.zero_add, ← List.length_drop]
    refine wpAny_of_seq (l.drop m) m S ⟨tm, []⟩ W (fun j => by simp [List.getElem?_drop]) (by rw [List.length_drop, hS]; exact hd.seq) ?_
    exact k env tm W _ R hfr hst2
  | succ f ih =>
    intro S env tm V' W O R inv hst hc
    rw [show f + 1 + (l.length - m) = f + (l.length - m) + 1 by omega]
    refine ⟨fun h => ?_, fun i hi => ?_⟩
    · obtain ⟨j, h1, h2, h3⟩ := cnt_pos S m (by omega)
      have hjl : j < l.length := Nat.lt_of_lt_of_le h1 hd.le
      have : j ∈ Region.ready .any l.toArray S := mem_ready.2 ⟨getD_in (by rw [inv.size]; exact hjl) h2, l[j], by simp [hjl], fun e he hb => h3 e.on (hd.edges j l[j] (by simp [hjl]) e he hb)⟩
      rw [h] at this; cases this
    · rcases Nat.lt_or_ge i m with hlt | hge
      · refine inv.step hd hl hf hall hst hlt hi fun env' tm' V'' W' O' R' inv' hst' => ?_
        have hSz : i < S.size := by
          have := (mem_ready.1 hi).2
          obtain ⟨o, ho, _⟩ := this
          rw [inv.size]; simpa using (Array.getElem?_eq_some_iff.1 ho).1
        have h0 : S.getD i false = false := getD_both (mem_ready.1 hi).1
        exact ih _ env' tm' V'' W' O' R' inv' hst' (by have := cnt_set S i hSz h0 m hlt; omega)
      · exfalso
        obtain ⟨j, h1, h2, _⟩ := cnt_pos S m (by omega)
        obtain ⟨o, ho, _⟩ := (mem_ready.1 hi).2
        have hil : i < l.length := by simpa using (Array.getElem?_eq_some_iff.1 ho).1
        have := anc_done inv.closed _ i j (hd.last i hge hil j (by omega)) (.inr hi)
        rw [h2] at this; cases this
theorem TC.draw {Q : Exit → Act → World → Prop} {id : Nat} (m : Nat) (outs : List DO) (hm : P.follows .mixedOrders = true) (hd : dStatic l.toArray m sz = true) (hl : outs.length = m) (hf : dFresh l.toArray outs s V = true) (hnd : ((vAfter outs V).map NEnt.name).Nodup)
    (hall : DAll P l.toArray outs V 0 l outs s) (k : TL P c sz Q l.toArray (l.drop m) t (sAfter l outs s) (vAfter outs V)) : TC P c sz Q (.code (.region id l.toArray true) :: t) s V := by
  intro env tm W O R hfr hst
  have hd' := dStat hd
  refine Gw.code (wp_region_any hm ?_)
  have hsz : l.toArray.size = l.length := by simp
  have inv : DInv l outs m sz s V (Array.replicate l.toArray.size false) env tm V := by
    have hz : ∀ j, (Array.replicate l.toArray.size false).getD j false = false := fun j => by
      by_cases h : j < l.toArray.size <;> simp [Array.getElem?_replicate]
      all_goals (split <;> rfl)
    refine ⟨by simp, fun i o _ h => ?_, fun i _ => hz i, hfr.1, fun t a ht _ => hfr.2 t a ht, fun j o d _ _ h => ?_, fun x => ?_⟩
    · rw [hz] at h; cases h
    · rw [hz] at h; cases h
    · constructor
      · exact fun h => ⟨.inl h, fun r d _ h => by rw [hz] at h; cases h⟩
      · rintro ⟨h | ⟨j, d, _, h, _⟩, _⟩
        · exact h
        · rw [hz] at h; cases h
  have hst' : St c env V { W with drawn := W.drawn + 1 } O R := ⟨⟨hst.keep.os, hst.keep.tape, hst.keep.output, hst.keep.size, hst.keep.block⟩, fun x hx => NEnt.holds_keep (W := W) (fun _ _ => rfl) (fun b hb => ⟨hb, rfl⟩) (hst.holds x hx), hst.own, hst.apart, hst.ro, hst.r0, hst.names⟩
  have hcnt : cnt (Array.replicate l.toArray.size false) m = m := by
    clear hall k hf hnd hd hd' inv hl
    induction m with
    | zero => rfl
    | succ m ih =>
      simp only [cnt, ih]
      have : (Array.replicate l.toArray.size false).getD m false = false := by
        by_cases h : m < l.toArray.size <;> simp [Array.getElem?_replicate]
        all_goals (split <;> rfl)
      rw [this]; rfl
  have := draw_any hd' hl hf hall hnd k m _ env tm V _ O R inv hst' hcnt
  rw [show m + (l.length - m) = l.toArray.size by have := hd'.le; simp; omega] at this
  exact this
end
end Go.Proofs.Ytpjlihkpnhamlaa.Sy
end

/- The small logic of symbolic states: contracts under other names; what the printed proofs use. -/
section
set_option linter.unusedSimpArgs false
set_option linter.unusedVariables false
namespace Go.Proofs.Ytpjlihkpnhamlaa.Sy
open Go.RowKit

theorem FC.at {P : Program} {f : Nat} {args : List AV} {need news : List NEnt} {v : AV} (p q : Nat → Nat) (h : FC P f args need v news) (hq : (news.map fun x => q x.name).Nodup) (hcl : closedN v news = true) :
    FC P f (AV.renL p args) (need.map (NEnt.ren p)) (v.ren q) (news.map (NEnt.ren q)) := by
  classical
  intro env w0 R0 hn hR
  rw [AV.denL_ren]
  refine (h (fun n => env (p n)) w0 R0 (fun x hx => ?_) hR).mono ?_
  · have := hn (x.ren p) (List.mem_map.2 ⟨x, hx, rfl⟩)
    rw [NEnt.holds_ren] at this; exact this
  rintro e W' ⟨u, he, env', O', R', h1, h2, hst⟩
  have hcl' : ∀ n, (n ∈ v.ns ∨ ∃ x ∈ news, n ∈ x.ns) → ∃ x ∈ news, x.name = n := by
    intro n hn
    have := List.all_eq_true.1 hcl n (by rw [List.mem_append, List.mem_flatMap]; exact hn)
    simpa [List.mem_map] using this
  have hinj := nodup_map_name hq
  let inv : Nat → Nat := fun k => if h : ∃ x ∈ news, q x.name = k then (Classical.choose h).name else k
  have hinv : ∀ x ∈ news, inv (q x.name) = x.name := by
    intro x hx
    have hex : ∃ y ∈ news, q y.name = q x.name := ⟨x, hx, rfl⟩
    simp only [inv, hex, dif_pos]
    obtain ⟨g1, g2⟩ := Classical.choose_spec hex
    cases Classical.em ((Classical.choose hex).name = x.name) with
    | inl e => exact e
    | inr e => exact absurd g2 (hinj _ g1 x hx e)
  let env2 : Env := fun k => if ∃ x ∈ news, q x.name = k then env' (inv k) else env k
  have henv2 : ∀ n, (n ∈ v.ns ∨ ∃ x ∈ news, n ∈ x.ns) → env2 (q n) = env' n := by
    intro n hn
    obtain ⟨x, hx, rfl⟩ := hcl' n hn
    have hex : ∃ y ∈ news, q y.name = q x.name := ⟨x, hx, rfl⟩
    simp only [env2, hex, if_true, hinv x hx]
  refine ⟨u, he, env2, fun k => O' (inv k), R', fun n hn => ?_, ?_, hst.keep, fun y hy => ?_, fun y hy b hb => ?_, fun y hy z hz hne b hb => ?_, hst.ro, hst.r0, ?_⟩
  · have : ¬ ∃ x ∈ news, q x.name = n := fun ⟨x, hx, e⟩ => hn (x.ren q) (List.mem_map.2 ⟨x, hx, rfl⟩) (by rw [NEnt.name_ren]; exact e)
    simp only [env2, this, if_false]
  · rw [h2, AV.den_ren]
    exact AV.den_congr v fun n hn => (henv2 n (.inl (AV.has_ns v hn))).symm
  · obtain ⟨x, hx, rfl⟩ := List.mem_map.1 hy
    rw [NEnt.holds_ren, NEnt.name_ren, hinv x hx]
    exact NEnt.holds_congr (fun n hn => (henv2 n (.inr ⟨x, hx, NEnt.has_ns hn⟩)).symm) (hst.holds x hx)
  · obtain ⟨x, hx, rfl⟩ := List.mem_map.1 hy
    rw [NEnt.name_ren, hinv x hx] at hb
    exact hst.own x hx b hb
  · obtain ⟨x, hx, rfl⟩ := List.mem_map.1 hy
    obtain ⟨x2, hx2, rfl⟩ := List.mem_map.1 hz
    rw [NEnt.name_ren, hinv x hx, NEnt.name_ren, hinv x2 hx2] at hb
    rw [NEnt.name_ren, NEnt.name_ren] at hne
    exact hst.apart x hx x2 hx2 (fun e => hne (by rw [e])) b hb
  · rw [List.map_map]
    have : (NEnt.name ∘ NEnt.ren q) = fun x => q x.name := by funext x; exact NEnt.name_ren q x
    rw [this]; exact hq

section
variable {P : Program} {c : Ctx} {sz : Nat} {Q : Exit → Act → World → Prop} {t : List Item} {s : List (Nat × AV)} {V : List NEnt} {ops : Array Oper} {rest : List Oper} {o : Oper}
theorem op0 {v : AV} {news : List NEnt} {d : Nat} (hs : OpSpec P o (rho s) [] v news) (hd : o.dst = some d) (hw : Wanted ops s o) (hlt : Nat.blt d sz = true) (hf : freshN news s V = true)
    (k : TL P c sz Q ops rest t ((d, v) :: s) (news ++ V)) : TL P c sz Q ops (o :: rest) t s V :=
  TL.op [] hs hd hw (by simpa [Nat.blt_eq] using hlt) (by simp) hf k
theorem op1 {v : AV} {news : List NEnt} {d : Nat} {y : NEnt} (i : Nat) (hy : V[i]? = some y) (hs : OpSpec P o (rho s) [y] v news) (hd : o.dst = some d) (hw : Wanted ops s o) (hlt : Nat.blt d sz = true) (hf : freshN news s V = true)
    (k : TL P c sz Q ops rest t ((d, v) :: s) (news ++ V)) : TL P c sz Q ops (o :: rest) t s V :=
  TL.op [y] hs hd hw (by simpa [Nat.blt_eq] using hlt) (fun x hx => by rw [List.mem_singleton] at hx; subst hx; exact mem_at i hy) hf k
/-- several entries, by their places -/
def At (V : List NEnt) : List Nat → List NEnt → Prop
  | [], [] => True
  | i :: is, x :: xs => V[i]? = some x ∧ At V is xs
  | _, _ => False
theorem At.mem {V : List NEnt} : ∀ {is : List Nat} {xs : List NEnt}, At V is xs → ∀ x ∈ xs, x ∈ V := by
  intro is
  induction is with
  | nil => intro xs h; cases xs with
    | nil => simp
    | cons x xs => exact h.elim
  | cons i is ih => intro xs h; cases xs with
    | nil => exact h.elim
    | cons y ys =>
      intro x hx
      rcases List.mem_cons.1 hx with rfl | hx
      · exact mem_at i h.1
      · exact ih h.2 x hx
theorem opN {v : AV} {news need : List NEnt} {d : Nat} (is : List Nat) (hy : At V is need) (hs : OpSpec P o (rho s) need v news) (hd : o.dst = some d) (hw : Wanted ops s o) (hlt : Nat.blt d sz = true) (hf : freshN news s V = true)
    (k : TL P c sz Q ops rest t ((d, v) :: s) (news ++ V)) : TL P c sz Q ops (o :: rest) t s V :=
  TL.op need hs hd hw (by simpa [Nat.blt_eq] using hlt) hy.mem hf k
theorem opSkip {d : Nat} (hd : o.dst = some d) (hw : Unwanted ops s o) (hlt : Nat.blt d sz = true) (k : TL P c sz Q ops rest t ((d, .val undef) :: s) V) : TL P c sz Q ops (o :: rest) t s V :=
  TL.skipG hd hw (by simpa [Nat.blt_eq] using hlt) k
theorem TC.condT {o : Operand} {x y : Code} (hc : rho s o = some (.val (.bool true))) (h : TC P c sz Q (.code x :: t) s V) : TC P c sz Q (.code (.cond o x y) :: t) s V :=
  TC.cond hc (fun _ => h) (fun h => by cases h)
theorem TC.condF {o : Operand} {x y : Code} (hc : rho s o = some (.val (.bool false))) (h : TC P c sz Q (.code y :: t) s V) : TC P c sz Q (.code (.cond o x y) :: t) s V :=
  TC.cond hc (fun h => by cases h) (fun _ => h)
theorem DAll.op' {outs : List DO} {i : Nat} {l : List Oper} {d : DO} {ds : List DO} (hs : OpSpec P o (rho s) d.need d.v d.news) (hw : Wanted ops s o) (ht : d.take = []) (hn : ∀ x ∈ d.need, NeedOk ops outs V i x) (h : DAll P ops outs V (i + 1) l ds (putS o d.v s)) : DAll P ops outs V i (o :: l) (d :: ds) s :=
  .op hw (by rw [ht]; exact hs.t) (by rw [ht]; simp) hn h
theorem DAll.opT {outs : List DO} {i : Nat} {l : List Oper} {d : DO} {ds : List DO} (hs : TSpec P o (rho s) d.take d.need d.v d.news) (hw : Wanted ops s o) (ht : ∀ x ∈ d.take, NeedOk ops outs V i x) (hn : ∀ x ∈ d.need, NeedOk ops outs V i x) (h : DAll P ops outs V (i + 1) l ds (putS o d.v s)) : DAll P ops outs V i (o :: l) (d :: ds) s :=
  .op hw hs ht hn h
end
/-- where a needed entry comes from: a place in the state, or one among what an operation ahead has made -/
def From (ops : Array Oper) (outs : List DO) (V : List NEnt) (i : Nat) : List (Option Nat × Nat) → List NEnt → Prop
  | [], [] => True
  | (none, k) :: ps, x :: xs => (V[k]? = some x ∧ delOk ops outs i none x.name = true) ∧ From ops outs V i ps xs
  | (some j, k) :: ps, x :: xs => (∃ d, outs[j]? = some d ∧ anc ops ops.size i j = true ∧ d.news[k]? = some x ∧ delOk ops outs i (some j) x.name = true) ∧ From ops outs V i ps xs
  | _, _ => False
theorem From.ok {ops : Array Oper} {outs : List DO} {V : List NEnt} {i : Nat} : ∀ {ps : List (Option Nat × Nat)} {xs : List NEnt}, From ops outs V i ps xs → ∀ x ∈ xs, NeedOk ops outs V i x := by
  intro ps
  induction ps with
  | nil => intro xs h; cases xs with
    | nil => simp
    | cons x xs => exact h.elim
  | cons p ps ih =>
    intro xs h
    obtain ⟨j, k⟩ := p
    cases xs with
    | nil => cases j <;> exact h.elim
    | cons y ys =>
      intro x hx
      cases j with
      | none =>
        rcases List.mem_cons.1 hx with rfl | hx
        · exact .inl ⟨mem_at k h.1.1, h.1.2⟩
        · exact ih h.2 x hx
      | some j =>
        rcases List.mem_cons.1 hx with rfl | hx
        · obtain ⟨d, h1, h2, h3, h4⟩ := h.1
          exact .inr ⟨j, d, h1, h2, mem_at k h3, h4⟩
        · exact ih h.2 x hx
/-- other names -/
def rn (l : List Nat) (n : Nat) : Nat := l.getD n n

/-- a check, and an element of a list -/
def chk {α : Type} (b : Bool) (k : Option α) : Option α := cond b k none
theorem chk_inv {α : Type} {b : Bool} {k : Option α} {r : α} (h : chk b k = some r) : b = true ∧ k = some r := by
  cases b
  · cases h
  · exact ⟨rfl, h⟩
def idx {α β : Type} (xs : List α) (i : Int) (k : α → Option β) : Option β := chk (decide (0 ≤ i)) (xs[i.toNat]?.bind k)
theorem idx_inv {α β : Type} {xs : List α} {i : Int} {k : α → Option β} {r : β} (h : idx xs i k = some r) : ∃ x, decide (0 ≤ i) = true ∧ xs[i.toNat]? = some x ∧ k x = some r := by
  obtain ⟨h1, h2⟩ := chk_inv h
  obtain ⟨x, h3, h4⟩ := Option.bind_eq_some_iff.1 h2
  exact ⟨x, h1, h3, h4⟩
theorem bind_inv {α β : Type} {e : Option α} {k : α → Option β} {r : β} (h : e.bind k = some r) : ∃ x, e = some x ∧ k x = some r := Option.bind_eq_some_iff.1 h
theorem cond_t {α : Type} {b : Bool} {x y : Option α} {r : α} (h : cond b x y = some r) (hb : b = true) : x = some r := by subst hb; exact h
theorem cond_f {α : Type} {b : Bool} {x y : Option α} {r : α} (h : cond b x y = some r) (hb : b = false) : y = some r := by subst hb; exact h
theorem map_get {α β : Type} {xs : List α} {i : Nat} {x : α} (f : α → β) (h : xs[i]? = some x) : (xs.map f)[i]? = some (f x) := by simp [h]
theorem map_app {α β : Type} (xs ys : List α) (f : α → β) : xs.map f ++ ys.map f = (xs ++ ys).map f := List.map_append.symm
theorem map_cut {α β : Type} (xs : List α) (f : α → β) (l h : Nat) : ((xs.map f).take h).drop l = ((xs.take h).drop l).map f := by simp [List.map_take, List.map_drop]
theorem map_set {α β : Type} (xs : List α) (f : α → β) (i : Nat) (x : α) : (xs.map f).set i (f x) = (xs.set i x).map f := by simp [List.map_set]
theorem len_map {α β : Type} (xs : List α) (f : α → β) : (xs.map f).length = xs.length := List.length_map ..

/-- parts of a code -/
def sub : Code → List Nat → Code
  | c, [] => c
  | .seq a b, i :: p => if i = 0 then sub a p else sub b p
  | .cond _ a b, i :: p => if i = 0 then sub a p else sub b p
  | .block _ a, _ :: p => sub a p
  | .loop a, _ :: p => sub a p
  | .scope a, _ :: p => sub a p
  | .rangeFunc _ _ a b, i :: p => if i = 0 then sub a p else sub b p
  | c, _ => c
def bodyOf (f : Func) : Code := f.body.getD .skip
end Go.Proofs.Ytpjlihkpnhamlaa.Sy
end

/- The small logic of symbolic states: the forms that the printed proofs use. -/
section
set_option linter.unusedSimpArgs false
set_option linter.unusedVariables false
namespace Go.Proofs.Ytpjlihkpnhamlaa.Sy
open Go.RowKit

def NEnt.isRoB : NEnt → Bool
  | .row _ _ _ _ => false
  | .blk _ _ _ => false
  | _ => true
theorem roAll {need : List NEnt} (h : need.all NEnt.isRoB = true) : ∀ x ∈ need, x.toRo = x := fun x hx => by
  have := List.all_eq_true.1 h x hx
  cases x <;> first | rfl | cases this
theorem map_len {α β : Type} {xs : List α} {f : α → List β} {size : Nat} (h : ∀ x, (f x).length = size) : ∀ el ∈ xs.map f, el.length = size := fun el he => by
  obtain ⟨x, _, rfl⟩ := List.mem_map.1 he
  exact h x
section
variable {P : Program} {o : Oper} {ρ : Operand → Option AV}
theorem sp_lenM {T E : TypeId} {size n N : Nat} {x : Operand} {els : List (List D)} {y : NEnt} (hl : els.length = N) (ho : o.op = .call { callee := .builtin .len, args := #[x], argTypes := #[T] }) (hx : ρ x = some (.ref n)) (hy : IsRow y n size els) (hT : P.underlying T = some (.slice E)) :
    OpSpec P o ρ [y] (.val (.int .i64 (N : Int))) [] := by subst hl; exact sp_len ho hx hy hT
theorem sp_lenA {T E : TypeId} {N : Nat} {x : Operand} {a : AV} (ho : o.op = .call { callee := .builtin .len, args := #[x], argTypes := #[T] }) (hx : ρ x = some a) (hT : P.underlying T = some (.array N E)) :
    OpSpec P o ρ [] (.val (.int .i64 (N : Int))) [] :=
  .pure fun ev env W O R hev hn => by
    simp only [execOp, ho, resolve, invoke, builtin, Sem.run_bind, Sem.run_pure, Result.andThen_ok, List.map_toArray, List.map_cons, List.map_nil, hev x _ hx, Builtin.len_]
    simp only [AV.den]
    cases a.den env <;> simp [run_underlying hT, goInt]
theorem sp_sliceM {T E : TypeId} {size bytes n N : Nat} (m : Nat) {x : Operand} {lo hi : Option Operand} {l h : Int} {els els' : List (List D)} (hl : els.length = N) (ho : o.op = .slice T x lo hi none) (hx : ρ x = some (.ref n)) (hT : SlT P T E size bytes)
    (hlo : Cut ρ lo 0 l) (hhi : Cut ρ hi (N : Int) h) (hb : (decide (0 ≤ l) && (decide (l ≤ h) && decide (h ≤ (N : Int)))) = true) (he : (els.take h.toNat).drop l.toNat = els') :
    OpSpec P o ρ [.ro n size els] (.ref m) [.ro m size els'] := by subst hl; exact sp_slice m ho hx hT hlo hhi hb he
end
section
variable {P : Program} {c : Ctx} {sz : Nat} {Q : Exit → Act → World → Prop} {t : List Item} {s : List (Nat × AV)} {V : List NEnt} {ops : Array Oper} {rest : List Oper} {o : Oper}
theorem appM (k j : Nat) {T E size bytes n m d N N2 : Nat} (r : Nat) {x y : Operand} {els els2 els3 : List (List D)} {ym : NEnt} (ho : o.op = .call { callee := .builtin .append, args := #[x, y], argTypes := #[T, T] }) (hd : o.dst = some d) (hw : Wanted ops s o) (hlt : Nat.blt d sz = true)
    (hx : rho s x = some (.ref n)) (hk : V[k]? = some (.row n E size els)) (hy : rho s y = some (.ref m)) (hm : V[j]? = some ym) (hym : IsRow ym m size els2) (hnm : (m == n) = false) (hT : SlT P T E size bytes) (h1 : els.length = N) (h2 : els2.length = N2) (hroom : room bytes (N + N2) = true)
    (he : els ++ els2 = els3) (hf : freshN [.row r E size els3] s V = true) (h : TL P c sz Q ops rest t ((d, .ref r) :: s) (.row r E size els3 :: V.eraseIdx k)) : TL P c sz Q ops (o :: rest) t s V := by
  subst h1; subst h2; subst he
  exact TL.append k r ho hd hw (by simpa [Nat.blt_eq] using hlt) hx hk hy (mem_at j hm) hym (by simpa using hnm) hT hroom hf h
theorem stoB (k : Nat) {T n off : Nat} {x y : Operand} {cells : List AV} {T' : TypeId} {a : AV} {N : Nat} {ag : Bool} (ho : o.op = .store T x y) (hd : o.dst = none) (hw : Wanted ops s o) (hx : rho s x = some (.ptr n off)) (hk : V[k]? = some (.blk n cells T')) (hy : rho s y = some a) (hfl : a.flat = true)
    (hT : VarT P T N ag) (hN : a.cs.length = N) (hle : Nat.ble (off + a.cs.length) cells.length = true) {cells' : List AV} (hc : cells.take off ++ a.cs ++ cells.drop (off + a.cs.length) = cells') (h : TL P c sz Q ops rest t s (V.set k (.blk n cells' T'))) : TL P c sz Q ops (o :: rest) t s V := by
  subst hc; subst hN
  exact TL.storeB k ho hd hw hx hk hy hfl hT.sizeOf (Nat.le_of_ble_eq_true hle) h
theorem stoR (k : Nat) {T n kk size E : Nat} (i j : Nat) {x y : Operand} {els els' : List (List D)} {el ds : List D} {a : AV} {need : List NEnt} {N : Nat} {ag : Bool} (is : List Nat) (ho : o.op = .store T x y) (hd : o.dst = none) (hw : Wanted ops s o) (hx : rho s x = some (.cell n kk)) (hk : V[k]? = some (.row n E size els))
    (hy : rho s y = some a) (hfl : a.flat = true) (hT : VarT P T N ag) (hN : a.cs.length = N) (hkk : kk = i * size + j) (hi : els[i]? = some el) (hle : Nat.ble (j + a.cs.length) size = true) (hpos : Nat.blt 0 size = true) (hneed : At V is need) (had : ADL need a.cs ds)
    (he : els.set i (el.take j ++ ds ++ el.drop (j + ds.length)) = els') (h : TL P c sz Q ops rest t s (V.set k (.row n E size els'))) : TL P c sz Q ops (o :: rest) t s V := by
  subst he; subst hN
  exact TL.storeR k ho hd hw hx hk hy hfl hT.sizeOf hkk hi (Nat.le_of_ble_eq_true hle) (by simpa [Nat.blt_eq] using hpos) hneed.mem had h
end
/- nil for a slice that is read -/
mutual
def AV.nl (k : Nat) : AV → AV
  | .val v => .val v
  | .ref m => if m = k then .val (.slice none 0 0) else .ref m
  | .ptr m o => if m = k then .val (.bool false) else .ptr m o
  | .cell m o => if m = k then .val (.bool false) else .cell m o
  | .agg cs => .agg (AV.nlL k cs)
  | .tup cs => .tup (AV.nlL k cs)
  | .fn f a b => .fn f (AV.nlL k a) (AV.nlL k b)
def AV.nlL (k : Nat) : List AV → List AV
  | [] => []
  | a :: l => a.nl k :: AV.nlL k l
end
mutual
theorem AV.den_nl (e : Env) (k : Nat) : ∀ (a : AV), (a.nl k).den e = a.den (setEnv e k (.slice none 0 0))
  | .val _ => rfl
  | .ref m => by
    simp only [AV.nl]
    split
    · rename_i h; subst h; simp [AV.den, setEnv_same, oneOf]
    · rename_i h; simp [AV.den, setEnv_other (Ne.symm h)]
  | .ptr m _ => by
    simp only [AV.nl]
    split
    · rename_i h; subst h; simp [AV.den, setEnv_same, blockOff]
    · rename_i h; simp [AV.den, setEnv_other (Ne.symm h)]
  | .cell m _ => by
    simp only [AV.nl]
    split
    · rename_i h; subst h; simp [AV.den, setEnv_same, cellAt]
    · rename_i h; simp [AV.den, setEnv_other (Ne.symm h)]
  | .agg cs => by simp only [AV.nl, AV.den, AV.denL_nl e k cs]
  | .tup cs => by simp only [AV.nl, AV.den, AV.denL_nl e k cs]
  | .fn f a b => by simp only [AV.nl, AV.den, AV.denL_nl e k a, AV.denL_nl e k b]
theorem AV.denL_nl (e : Env) (k : Nat) : ∀ (l : List AV), AV.denL e (AV.nlL k l) = AV.denL (setEnv e k (.slice none 0 0)) l
  | [] => rfl
  | a :: l => by simp only [AV.nlL, AV.denL, AV.den_nl e k a, AV.denL_nl e k l]
end
theorem FC.nil {P : Program} {f : Nat} {args : List AV} {need news : List NEnt} {v : AV} (k size : Nat) (h : FC P f args (.ro k size [] :: need) v news) (hk : hasV k need = false) (hv : v.has k = false) (hn : hasV k news = false) :
    FC P f (AV.nlL k args) need v news := by
  intro env w0 R0 hnd hR
  rw [AV.denL_nl]
  refine (h (setEnv env k (.slice none 0 0)) w0 R0 (fun x hx => ?_) hR).mono ?_
  · rcases List.mem_cons.1 hx with rfl | hx
    · simp only [NEnt.holds, setEnv_same]
      exact ⟨none, 0, rfl, Nat.le_refl _, Nat.zero_le _, fun _ => rfl, by simp⟩
    · exact NEnt.holds_congr (fun n hn' => (setEnv_other fun e => by subst e; rw [hasV_mem hk hx] at hn'; cases hn').symm) (hnd x hx)
  rintro e W' ⟨u, he, env', O', R', h1, h2, hst⟩
  have hc : ∀ n, n ≠ k → setEnv env' k (env k) n = env' n := fun n hne => setEnv_other (Ne.symm hne)
  refine ⟨u, he, setEnv env' k (env k), O', R', fun n hn' => ?_, ?_, hst.keep, fun x hx => ?_, hst.own, hst.apart, hst.ro, hst.r0, hst.names⟩
  · by_cases e : n = k
    · subst e; rw [setEnv_same]
    · rw [hc n e, h1 n hn', setEnv_other (Ne.symm e)]
  · rw [h2]
    exact AV.den_congr v fun n hn' => (hc n fun e => by subst e; rw [hv] at hn'; cases hn').symm
  · exact NEnt.holds_congr (fun n hn' => (hc n fun e => by subst e; rw [hasV_mem hn hx] at hn'; cases hn').symm) (hst.holds x hx)
end Go.Proofs.Ytpjlihkpnhamlaa.Sy
end

/- The small logic of symbolic states: side conditions as Bools. -/
section
set_option linter.unusedSimpArgs false
set_option linter.unusedVariables false
namespace Go.Proofs.Ytpjlihkpnhamlaa.Sy
open Go.RowKit

def nodupB : List Nat → Bool
  | [] => true
  | a :: l => !(l.contains a) && nodupB l
theorem nodup_of_B : ∀ {l : List Nat}, nodupB l = true → l.Nodup := by
  intro l
  induction l with
  | nil => intro _; simp
  | cons a l ih => intro h; simp only [nodupB, Bool.and_eq_true, Bool.not_eq_true', List.contains_eq_mem, decide_eq_false_iff_not] at h; exact List.nodup_cons.2 ⟨h.1, ih h.2⟩
def rnA (l : List (Nat × Nat)) (n : Nat) : Nat := match l with
  | [] => n
  | (a, b) :: l => if a = n then b else rnA l n
section
variable {P : Program} {c : Ctx} {sz : Nat} {Q : Exit → Act → World → Prop} {t : List Item} {s s' : List (Nat × AV)} {V V' : List NEnt} {ops : Array Oper} {rest : List Oper} {o : Oper}
theorem subJ (p : List (Nat × Nat)) (h : TC P c sz Q t s' V') (hs : SubS (rnA p) s s') (hV : SubV (rnA p) V V') (hn : nodupB (V'.map fun x => rnA p x.name) = true) : TC P c sz Q t s V := TC.sub (rnA p) h hs hV (nodup_of_B hn)
theorem retJ {fn : Func} {env0 : Env} (p : List (Nat × Nat)) {v : AV} {news : List NEnt} {m : List AV} (hr : ResL P s V fn.results.toList m) (hv : v.ren (rnA p) = resAV m) (hV : SubV (rnA p) V news) (hn : nodupB (news.map fun x => rnA p x.name) = true) (hcl : closedN v news = true) :
    TC P c sz (bodyPost P fn (Post c env0 v news)) (.code .ret :: t) s V := TC.ret (rnA p) hr hv hV (nodup_of_B hn) hcl
theorem endJ {fn : Func} {env0 : Env} (p : List (Nat × Nat)) {v : AV} {news : List NEnt} {m : List AV} (hr : ResL P s V fn.results.toList m) (hv : v.ren (rnA p) = resAV m) (hV : SubV (rnA p) V news) (hn : nodupB (news.map fun x => rnA p x.name) = true) (hcl : closedN v news = true) :
    TC P c sz (bodyPost P fn (Post c env0 v news)) [] s V := by
  intro env tm W O R hf hst
  refine Gw.nil ⟨rfl, (resAV m).den env, ?_, _, rfl, Got.mk hst (rnA p) hv hV (nodup_of_B hn) hcl⟩
  have h := results_run hr hf hst
  simp only [results_eq, Array.mapM_eq_mapM_toList, Sem.run_bind, Sem.run_map, h, Result.andThen_ok]
  cases m with
  | nil => rfl
  | cons a m => cases m with
    | nil => rfl
    | cons b m => rfl
theorem introJ {fn : Func} {f : Nat} {body : Code} {args : List AV} {need news : List NEnt} {v : AV} (hf : P.funcs[f]? = some fn) (hb : fn.body = some body) (hsz : args.length + (fn.ntmps - args.length) = sz) (hnd : nodupB (need.map NEnt.name) = true)
    (h : ∀ (w0 : World) (R0 : Nat → Prop) (env0 : Env), TC P ⟨w0, fun _ => False, R0⟩ sz (bodyPost P fn (Post ⟨w0, fun _ => False, R0⟩ env0 v news)) [.code body] (args.zipIdx.map fun p => (p.2, p.1)) need) : FC P f args need v news :=
  FC.intro hf hb hsz (nodup_of_B hnd) h
theorem drawJ {id : Nat} {l : List Oper} (m : Nat) (outs : List DO) (hm : P.follows .mixedOrders = true) (hd : dStatic l.toArray m sz = true) (hl : outs.length = m) (hf : dFresh l.toArray outs s V = true) (hnd : nodupB ((vAfter outs V).map NEnt.name) = true)
    (hall : DAll P l.toArray outs V 0 l outs s) (k : TL P c sz Q l.toArray (l.drop m) t (sAfter l outs s) (vAfter outs V)) : TC P c sz Q (.code (.region id l.toArray true) :: t) s V :=
  TC.draw m outs hm hd hl hf (nodup_of_B hnd) hall k
theorem atJ {f : Nat} {args : List AV} {need news : List NEnt} {v : AV} (p q : List (Nat × Nat)) (h : FC P f args need v news) (hq : nodupB (news.map fun x => rnA q x.name) = true) (hcl : closedN v news = true) :
    FC P f (AV.renL (rnA p) args) (need.map (NEnt.ren (rnA p))) (v.ren (rnA q)) (news.map (NEnt.ren (rnA q))) := FC.at (rnA p) (rnA q) h (nodup_of_B hq) hcl
/-- a bool that is known by now -/
theorem boolLit (d : Nat) {b b' : Bool} (hs : look s d = some (.val (.bool b))) (hb : b = b') : (TC P c sz Q t ((d, .val (.bool b')) :: s) V → TC P c sz Q t s V) ∧ (TL P c sz Q ops rest t ((d, .val (.bool b')) :: s) V → TL P c sz Q ops rest t s V) := by
  subst hb
  refine ghost fun env tm W O R hfr hst => ⟨env, O, R, ⟨hfr.1, fun t a ha => ?_⟩, hst⟩
  simp only [look] at ha
  split at ha
  · rename_i e; subst e; cases ha; exact hfr.2 _ _ hs
  · exact hfr.2 t a ha
theorem nilRowM (d n E size : Nat) (els : List (List D)) (he : els = []) (hs : look s d = some (.val (.slice none 0 0))) (hf : freshN [.row n E size els] s V = true) :
    (TC P c sz Q t ((d, .ref n) :: s) (.row n E size els :: V) → TC P c sz Q t s V) ∧ (TL P c sz Q ops rest t ((d, .ref n) :: s) (.row n E size els :: V) → TL P c sz Q ops rest t s V) := by
  subst he; exact nilRow d n E size hs hf
theorem nilRoM (d n size : Nat) (els : List (List D)) (he : els = []) (hs : look s d = some (.val (.slice none 0 0))) (hf : freshN [.ro n size els] s V = true) :
    (TC P c sz Q t ((d, .ref n) :: s) (.ro n size els :: V) → TC P c sz Q t s V) ∧ (TL P c sz Q ops rest t ((d, .ref n) :: s) (.ro n size els :: V) → TL P c sz Q ops rest t s V) := by
  subst he; exact nilRo d n size hs hf
theorem sp_emptyM {o : Oper} {ρ : Operand → Option AV} {T E : TypeId} {size bytes : Nat} (n : Nat) (els : List (List D)) (he : els = []) (ho : o.op = .buildSlice T 0 #[]) (hT : SlT P T E size bytes) : OpSpec P o ρ [] (.ref n) [.row n E size els] := by
  subst he; exact sp_emptySlice n ho hT
theorem sp_cast {o : Oper} {ρ : Operand → Option AV} {need news : List NEnt} {v v' : AV} (h : v = v') (hs : OpSpec P o ρ need v news) : OpSpec P o ρ need v' news := h ▸ hs
theorem sp_castB {o : Oper} {ρ : Operand → Option AV} {need news : List NEnt} {b b' : Bool} (h : b = b') (hs : OpSpec P o ρ need (.val (.bool b)) news) : OpSpec P o ρ need (.val (.bool b')) news := h ▸ hs
end
theorem cond_cases {α : Type} {b : Bool} {x y : Option α} {r : α} (h : cond b x y = some r) : (b = true ∧ x = some r) ∨ (b = false ∧ y = some r) := by
  cases b
  · exact .inr ⟨rfl, h⟩
  · exact .inl ⟨rfl, h⟩
theorem none_no {α : Type} {r : α} {p : Prop} (h : (none : Option α) = some r) : p := by cases h
end Go.Proofs.Ytpjlihkpnhamlaa.Sy
end

/- The small logic of symbolic states: function values as arguments. -/
section
set_option linter.unusedSimpArgs false
set_option linter.unusedVariables false
namespace Go.Proofs.Ytpjlihkpnhamlaa.Sy
open Go.RowKit

/-- a function value that computes a function on plain data, and turns nothing -/
def D.fn (P : Program) {α β : Type} (enc : α → List AV) (dec : β → AV) (f : α → Option β) : D :=
  ⟨fun W R v => ∃ g first caps, v = .func (.func g) first caps ∧ (∀ args w, (callFunc g args).run P w = .ok (.enter g args) w) ∧ ∀ a b, f a = some b → ∀ (env : Env) (W' : World) (R' : Nat → Prop),
      (∀ k, R k → R' k ∧ W'.heap[k]? = W.heap[k]?) → (∀ k, R' k → k < W'.heap.size) → Calls P g (first ++ (AV.denL env (enc a)).toArray ++ caps) W' (Post ⟨W', fun _ => False, R'⟩ env (dec b) []),
   fun W W' R R' hm v ⟨g, first, caps, h1, h2, h3⟩ => ⟨g, first, caps, h1, h2, fun a b hab env W2 R2 hr hs => h3 a b hab env W2 R2 (fun k hk => ⟨(hr k (hm k hk).1).1, ((hr k (hm k hk).1).2).trans (hm k hk).2⟩) hs⟩⟩
section
variable {P : Program} {o : Oper} {ρ : Operand → Option AV}
theorem sp_callF {α β : Type} {enc : α → List AV} {dec : β → AV} {F : α → Option β} {fo : Operand} {as_ : List Operand} {avs : List AV} {ats : Array TypeId} {n : Nat} {v : AV} (a : α) {b : β} (ho : o.op = .call { callee := .value fo, args := as_.toArray, argTypes := ats }) (hf : ρ fo = some (.ref n))
    (has : as_.map ρ = avs.map some) (ha : avs = enc a) (hv : dec b = v) (hab : F a = some b) : OpSpec P o ρ [.any n (D.fn P enc dec F)] v [] := by
  intro ev env W O R hev hn hO hR
  obtain ⟨g, first, caps, h1, h2, h3⟩ := hn _ (List.mem_singleton.2 rfl)
  have hfo := hev fo _ hf
  have h1' : env n = .func (.func g) first caps := h1
  simp only [AV.den, h1', oneOf] at hfo
  have hargs := args_map hev as_ avs has
  have hrun : (execOp ev o).run P W = .ok (.enter g (first ++ (AV.denL env (enc a)).toArray ++ caps)) W := by
    simp only [execOp, ho, resolve, hfo, Deferred.ofValue, Sem.run_bind, Sem.run_pure, Result.andThen_ok, invoke, h2, List.map_toArray, hargs, ha]
  rw [hrun]
  subst hv
  exact (h3 a b hab env W R (fun k hk => ⟨hk, rfl⟩) hR).mono fun e W' ⟨u, he, hg⟩ => ⟨u, he, hg⟩
theorem sp_nilCheckR {α β : Type} {enc : α → List AV} {dec : β → AV} {F : α → Option β} {x : Operand} {n : Nat} (ho : o.op = .nilCheck x) (hx : ρ x = some (.ref n)) : OpSpec P o ρ [.any n (D.fn P enc dec F)] (.ref n) [] :=
  .pure fun ev env W O R hev hn => by
    obtain ⟨g, first, caps, h1, _⟩ := hn _ (List.mem_singleton.2 rfl)
    have h1' : env n = .func (.func g) first caps := h1
    have hx' := hev x _ hx
    simp only [AV.den, h1', oneOf] at hx'
    simp [execOp, ho, hx', AV.den, h1', oneOf]
end
def noName (v : AV) : Bool := v.ns.isEmpty
theorem den_noName {v : AV} (h : noName v = true) (e e' : Env) : v.den e = v.den e' := AV.den_congr v fun n hn => by
  have := AV.has_ns v hn
  simp only [noName, List.isEmpty_iff] at h
  rw [h] at this; cases this
theorem denL_noName {l : List AV} (h : (AV.nsL l).isEmpty = true) (e e' : Env) : AV.denL e l = AV.denL e' l := AV.denL_congr l fun n hn => by
  have := AV.hasL_ns l hn
  simp only [List.isEmpty_iff] at h
  rw [h] at this; cases this
/-- a closure for a function argument -/
theorem FC.fnArg {P : Program} {α β : Type} {enc : α → List AV} {dec : β → AV} {F : α → Option β} {f g k : Nat} (i : Nat) {args first caps : List AV} {needC need news : List NEnt} {v : AV} (h : FC P f args (.any k (D.fn P enc dec F) :: need) v news)
    (hi : args[i]? = some (.ref k)) (hcall : ∀ args w, (callFunc g args).run P w = .ok (.enter g args) w) (hc : ∀ a b, F a = some b → FC P g (first ++ enc a ++ caps) needC (dec b) [])
    (hro : needC.all NEnt.isRoB = true) (henc : ∀ a, (AV.nsL (enc a)).isEmpty = true) (hdec : ∀ b, noName (dec b) = true)
    (hk : (args.zipIdx.all fun p => p.2 == i || !p.1.has k) = true) (hk2 : hasV k needC = false) (hk3 : hasV k need = false) (hk4 : v.has k = false) (hk5 : hasV k news = false) (hk6 : AV.hasL k first = false) (hk7 : AV.hasL k caps = false) :
    FC P f (args.set i (.fn g first caps)) (needC ++ need) v news := by
  intro env w0 R0 hnd hR
  have hval : AV.denL env (args.set i (.fn g first caps)) = AV.denL (setEnv env k ((AV.fn g first caps).den env)) args := by
    simp only [AV.denL_map]
    apply List.ext_getElem?
    intro j
    simp only [List.getElem?_map, List.getElem?_set]
    split
    · rename_i e; subst e
      rw [if_pos (List.getElem?_eq_some_iff.1 hi).1, hi]
      simp [AV.den, setEnv_same, oneOf]
    · rename_i e
      cases ha : args[j]? with
      | none => rfl
      | some a =>
        have hm : (a, j) ∈ args.zipIdx := List.mem_iff_getElem?.2 ⟨j, by rw [List.getElem?_zipIdx, ha]; simp⟩
        have := List.all_eq_true.1 hk (a, j) hm
        simp only [Bool.or_eq_true, beq_iff_eq, Bool.not_eq_true'] at this
        rcases this with e' | this
        · exact absurd e'.symm e
        · simp only [Option.map_some, Option.some.injEq]
          exact AV.den_congr a fun n hn => (setEnv_other fun e => by subst e; rw [this] at hn; cases hn).symm
  rw [hval]
  have hnC : ∀ x ∈ needC, x.holds env w0 (fun _ => False) R0 := fun x hx => hnd x (by simp [hx])
  refine (h (setEnv env k ((AV.fn g first caps).den env)) w0 R0 (fun x hx => ?_) hR).mono ?_
  · rcases List.mem_cons.1 hx with rfl | hx
    · refine ⟨g, (AV.denL env first).toArray, (AV.denL env caps).toArray, by simp [setEnv_same, AV.den], hcall, fun a b hab env' W' R' hr hs => ?_⟩
      have hcalls := hc a b hab env W' R' (fun x hx => by
        have h1 := hnC x hx
        have hxr := List.all_eq_true.1 hro x hx
        cases x with
        | row n E size els => cases hxr
        | blk n cells T => cases hxr
        | ro n size els => exact NEnt.holds_keep (x := .ro n size els) (fun _ h => h.elim) hr h1
        | rob n cells T => exact NEnt.holds_keep (x := .rob n cells T) (fun _ h => h.elim) hr h1
        | any n d => exact NEnt.holds_keep (x := .any n d) (fun _ h => h.elim) hr h1) hs
      rw [denL_append, denL_append, denL_noName (henc a) env env'] at hcalls
      simp only [← List.append_toArray] at hcalls
      refine hcalls.mono ?_
      rintro e W2 ⟨u, he, env2, O2, R2, g1, g2, g3⟩
      refine ⟨u, he, env', fun _ _ => False, R2, fun _ _ => rfl, by rw [g2]; exact den_noName (hdec b) _ _, ⟨g3.keep, by simp, by simp, by simp, g3.ro, g3.r0, by simp⟩⟩
    · exact NEnt.holds_congr (fun n hn' => (setEnv_other fun e => by subst e; rw [hasV_mem hk3 hx] at hn'; cases hn').symm) (hnd x (by simp [hx]))
  rintro e W' ⟨u, he, env', O', R', h1, h2, hst⟩
  have hcn : ∀ n, n ≠ k → setEnv env' k (env k) n = env' n := fun n hne => setEnv_other (Ne.symm hne)
  refine ⟨u, he, setEnv env' k (env k), O', R', fun n hn' => ?_, ?_, hst.keep, fun x hx => ?_, hst.own, hst.apart, hst.ro, hst.r0, hst.names⟩
  · by_cases e : n = k
    · subst e; rw [setEnv_same]
    · rw [hcn n e, h1 n hn', setEnv_other (Ne.symm e)]
  · rw [h2]
    exact AV.den_congr v fun n hn' => (hcn n fun e => by subst e; rw [hk4] at hn'; cases hn').symm
  · exact NEnt.holds_congr (fun n hn' => (hcn n fun e => by subst e; rw [hasV_mem hk5 hx] at hn'; cases hn').symm) (hst.holds x hx)
theorem FC.needJ {P : Program} {f : Nat} {args : List AV} {need need' news : List NEnt} {v : AV} (is : List Nat) (hn : At need is need') (h : FC P f args need' v news) : FC P f args need v news :=
  fun env w0 R0 hnd hR => h env w0 R0 (fun x hx => hnd x (hn.mem x hx)) hR
end Go.Proofs.Ytpjlihkpnhamlaa.Sy
end

/- Arguments that came in, opened by their types, as entries of a symbolic state. -/
section
set_option linter.unusedSimpArgs false
set_option linter.unusedVariables false
namespace Go.Proofs.Ytpjlihkpnhamlaa.Sy
open Go.RowKit Go.Deep Go.ChangeShapes Go.WideShapes

/-- values that are what the assertions say -/
def OkL (w : World) : List Value → List D → Prop
  | [], [] => True
  | u :: us, d :: ds => (d.ok w (fun b => b < w.heap.size) u ∧ u.oneCell' = true) ∧ OkL w us ds
  | _, _ => False
theorem okL_cons {w : World} {cs : List Value} {d : D} {ds : List D} (h : OkL w cs (d :: ds)) : ∃ u us, cs = u :: us ∧ d.ok w (fun b => b < w.heap.size) u ∧ OkL w us ds := by
  cases cs with
  | nil => exact h.elim
  | cons u us => exact ⟨u, us, rfl, h.1.1, h.2⟩
theorem okL_nil {w : World} {cs : List Value} (h : OkL w cs []) : cs = [] := by
  cases cs with
  | nil => rfl
  | cons u us => exact h.elim
theorem OkL.append {w : World} : ∀ {cs : List Value} {ds : List D} {cs' : List Value} {ds' : List D}, OkL w cs ds → OkL w cs' ds' → OkL w (cs ++ cs') (ds ++ ds') := by
  intro cs
  induction cs with
  | nil => intro ds cs' ds' h k; cases ds with
    | nil => exact k
    | cons d ds => exact h.elim
  | cons u us ih => intro ds cs' ds' h k; cases ds with
    | nil => exact h.elim
    | cons d ds => exact ⟨h.1, ih h.2 k⟩
theorem OkL.len {w : World} : ∀ {cs : List Value} {ds : List D}, OkL w cs ds → cs.length = ds.length := by
  intro cs
  induction cs with
  | nil => intro ds h; cases ds with
    | nil => rfl
    | cons d ds => exact h.elim
  | cons u us ih => intro ds h; cases ds with
    | nil => exact h.elim
    | cons d ds => simp [ih h.2]
theorem OkL.at {w : World} : ∀ {cs : List Value} {ds : List D}, OkL w cs ds → ∀ (j : Nat) (d : D), ds[j]? = some d → ∃ u : Value, cs[j]? = some u ∧ d.ok w (fun b => b < w.heap.size) u ∧ u.oneCell' = true := by
  intro cs
  induction cs with
  | nil => intro ds h j d hd; cases ds with
    | nil => simp at hd
    | cons d ds => exact h.elim
  | cons u us ih => intro ds h j d hd; cases ds with
    | nil => exact h.elim
    | cons d0 ds => cases j with
      | zero => simp at hd; subst hd; exact ⟨u, rfl, h.1⟩
      | succ j => obtain ⟨u', h1, h2⟩ := ih h.2 j d (by simpa using hd); exact ⟨u', by simpa using h1, h2⟩

/-- cells that read by a type are what some data says -/
def Opens (P : Program) (T : TypeId) (size : Nat) {α : Type} (en : α → List D) (wf : α → Prop) : Prop :=
  P.cellsOf T = size ∧ ∀ {H : Type} (enc : TypeId × Value → H) (w : World) (base : Nat) (spare : Nat → Bool) (held : Bool) (n : Nat) (cs : List Value) (x : DataW H × List MemPlace),
    DataW.trod enc P w base spare held n T cs = some x → ∃ a, wf a ∧ OkL w cs (en a)
theorem Opens.map {P : Program} {T : TypeId} {size : Nat} {α β : Type} {en : α → List D} {wf : α → Prop} (h : Opens P T size en wf) (f : α → β) {en' : β → List D} {wf' : β → Prop} (he : ∀ a, en a = en' (f a)) (hw : ∀ a, wf a → wf' (f a)) : Opens P T size en' wf' :=
  ⟨h.1, fun enc w base spare held n cs x hx => by
    obtain ⟨a, h1, h2⟩ := h.2 enc w base spare held n cs x hx
    exact ⟨f a, hw a h1, by rw [← he]; exact h2⟩⟩
theorem opens_int {P : Program} {T : TypeId} {k : IntKind} (hu : P.underlying T = some (.int k)) (hc : P.cellsOf T = 1) : Opens P T 1 (fun z : Int => [D.v (.int k z)]) (fun z => (Lit.int k z).wf = true) := by
  refine ⟨hc, fun enc w base spare held n cs x hx => ?_⟩
  obtain ⟨z, rfl, _, hw⟩ := DataW.trod_int hu hx
  exact ⟨z, hw, ⟨rfl, rfl⟩, trivial⟩
theorem opens_bool {P : Program} {T : TypeId} (hu : P.underlying T = some .bool) (hc : P.cellsOf T = 1) : Opens P T 1 (fun z : Bool => [D.v (.bool z)]) (fun _ => True) := by
  refine ⟨hc, fun enc w base spare held n cs x hx => ?_⟩
  obtain ⟨z, rfl, _⟩ := DataW.trod_bool hu hx
  exact ⟨z, trivial, ⟨rfl, rfl⟩, trivial⟩
theorem choose_list {β : Type} {p : Nat → β → Prop} : ∀ n : Nat, (∀ i, i < n → ∃ q, p i q) → ∃ l : List β, l.length = n ∧ ∀ i q, l[i]? = some q → p i q := by
  intro n
  induction n with
  | zero => intro _; exact ⟨[], rfl, by simp⟩
  | succ n ih =>
    intro h
    obtain ⟨l, h1, h2⟩ := ih fun i hi => h i (by omega)
    obtain ⟨q, hq⟩ := h n (by omega)
    refine ⟨l ++ [q], by simp [h1], fun i q' hi => ?_⟩
    rcases Nat.lt_or_ge i n with hlt | hge
    · rw [List.getElem?_append_left (by omega)] at hi; exact h2 i q' hi
    · rw [List.getElem?_append_right (by omega)] at hi
      have : i - l.length = 0 := by
        have := (List.getElem?_eq_some_iff.1 hi).1
        simp at this; omega
      rw [this] at hi; simp at hi; subst hi
      have : i = n := by omega
      subst this; exact hq
theorem opens_slice {P : Program} {T E : TypeId} {size : Nat} {α : Type} {en : α → List D} {wf : α → Prop} (hu : P.underlying T = some (.slice E)) (hc : P.cellsOf T = 1) (hs : 0 < size) (he : Opens P E size en wf) :
    Opens P T 1 (fun xs : List α => [D.s size (xs.map en)]) (fun xs => xs.length ≤ maxLen ∧ ∀ x ∈ xs, wf x) := by
  refine ⟨hc, fun enc w base spare held n cs x hx => ?_⟩
  rcases open_slice hu hx with ⟨rfl, _⟩ | ⟨a, len, cap, m, n', D', Pl, rfl, hb, hl, hm, hmm, _, hel⟩
  · exact ⟨[], ⟨by simp [maxLen], by simp⟩, ⟨⟨none, 0, rfl, by simp, by simp [maxLen], fun _ => rfl, fun i el h => by simp at h⟩, rfl⟩, trivial⟩
  · have hlm : len ≤ m := by rw [hmm]; split <;> omega
    have each : ∀ i, i < len → ∃ q : α × List Value, wf q.1 ∧ OkL w q.2 (en q.1) ∧ q.2.length = size ∧ w.cells? base (a.add (i * size)) size = some q.2 := by
      intro i hi
      obtain ⟨cs', h1, h2⟩ := hel i (by omega)
      rw [he.1] at h1
      obtain ⟨_, hlen, _⟩ := World.cells?_some h1
      obtain ⟨q, hq, hok⟩ := he.2 enc w base spare held n' cs' _ h2
      exact ⟨(q, cs'), hq, hok, hlen, h1⟩
    obtain ⟨q, hql, hq⟩ := choose_list len each
    refine ⟨q.map Prod.fst, ⟨by simp [hql]; omega, fun x hx => ?_⟩, ⟨⟨some a, cap, by simp [hql], by simp [hql, hl], hm, (fun h => by cases h), fun i el hi => ?_⟩, rfl⟩, trivial⟩
    · obtain ⟨y, hy, rfl⟩ := List.mem_map.1 hx
      obtain ⟨i, hi⟩ := List.mem_iff_getElem?.1 hy
      exact (hq i y hi).1
    · rw [List.map_map, List.getElem?_map] at hi
      obtain ⟨y, hy, hel'⟩ := Option.map_eq_some_iff.1 hi
      obtain ⟨h1, h2, h3, h4⟩ := hq i y hy
      simp only [Function.comp] at hel'
      subst hel'
      refine ⟨by rw [← h2.len, h3], fun j d hj => ?_⟩
      obtain ⟨u, hu1, hu2, hu3⟩ := h2.at j d hj
      have hjs : j < size := by rw [← h3]; exact (List.getElem?_eq_some_iff.1 hu1).1
      obtain ⟨_, hlen, hcell⟩ := World.cells?_some h4
      have hc1 := hcell j (by omega)
      rw [add_add] at hc1
      have hu' : y.2[j]? = some u := hu1
      have hc2 : w.cell? (a.add (i * size + j)) = some u := by
        rw [hc1]; exact hu'
      obtain ⟨b, o, sp⟩ := a
      have hsp : sp = none := by
        have h0l : 0 < q.length := by have := (List.getElem?_eq_some_iff.1 hy).1; omega
        obtain ⟨_, _, g3, g4⟩ := hq 0 q[0] (by simp [h0l])
        obtain ⟨_, glen, gcell⟩ := World.cells?_some g4
        have g5 := gcell 0 hs
        rw [List.getElem?_eq_getElem (by omega)] at g5
        simpa [Addr.add] using World.cell?_spot g5
      subst hsp
      have e1 : (⟨b, o, none⟩ : Addr).add (i * size + j) = ⟨b, o + (i * size + j), none⟩ := by unfold Addr.add; split <;> simp_all
      rw [e1] at hc2
      refine ⟨b, o, rfl, ?_, u, hc2, hu2, hu3⟩
      rcases Nat.lt_or_ge b w.heap.size with g | g
      · exact g
      · rw [World.cell?, Array.getElem?_eq_none g] at hc2; cases hc2
/-- parts one after another: their types and how many cells they have -/
def offs (parts : List (TypeId × Nat)) (i : Nat) : Nat := ((parts.take i).map Prod.snd).sum
def OpensP (P : Program) (parts : List (TypeId × Nat)) (size : Nat) {α : Type} (en : α → List D) (wf : α → Prop) : Prop :=
  ∀ {H : Type} (enc : TypeId × Value → H) (w : World) (base : Nat) (spare : Nat → Bool) (held : Bool) (n : Nat) (cs : List Value), cs.length = size →
    (∀ i T s, parts[i]? = some (T, s) → ∃ x, DataW.trod enc P w base spare held n T ((cs.drop (offs parts i)).take s) = some x) → ∃ a, wf a ∧ OkL w cs (en a)
theorem parts_nil {P : Program} : OpensP P [] 0 (fun _ : Unit => []) (fun _ => True) := by
  intro H enc w base spare held n cs hl _
  have : cs = [] := List.length_eq_zero_iff.1 hl
  subst this
  exact ⟨(), trivial, trivial⟩
theorem parts_cons {P : Program} {T : TypeId} {s size : Nat} {parts : List (TypeId × Nat)} {α β : Type} {en : α → List D} {wf : α → Prop} {en' : β → List D} {wf' : β → Prop} (h : Opens P T s en wf) (hs : OpensP P parts size en' wf') :
    OpensP P ((T, s) :: parts) (s + size) (fun p : α × β => en p.1 ++ en' p.2) (fun p => wf p.1 ∧ wf' p.2) := by
  intro H enc w base spare held n cs hl hp
  obtain ⟨x, hx⟩ := hp 0 T s rfl
  obtain ⟨a, h1, h2⟩ := h.2 enc w base spare held n _ x hx
  obtain ⟨b, h3, h4⟩ := hs enc w base spare held n (cs.drop s) (by simp [hl]) (fun i T' s' hi => by
    obtain ⟨y, hy⟩ := hp (i + 1) T' s' (by simpa using hi)
    refine ⟨y, ?_⟩
    rw [List.drop_drop]
    simpa [offs] using hy)
  refine ⟨(a, b), ⟨h1, h3⟩, ?_⟩
  have := h2.append h4
  simpa [offs] using this
def chkF (P : Program) : List Field → Nat → List (TypeId × Nat) → Bool
  | [], _, [] => true
  | f :: fs, off, (T, s) :: ps => f.type == T && P.cellsOf f.type == s && f.offset == off && chkF P fs (off + s) ps
  | _, _, _ => false
theorem chkF_at {P : Program} : ∀ {fs : List Field} {off : Nat} {ps : List (TypeId × Nat)}, chkF P fs off ps = true → ∀ i T s, ps[i]? = some (T, s) → ∃ f, fs[i]? = some f ∧ f.type = T ∧ P.cellsOf f.type = s ∧ f.offset = off + offs ps i := by
  intro fs
  induction fs with
  | nil => intro off ps h i T s hi; cases ps with
    | nil => simp at hi
    | cons p ps => cases h
  | cons f fs ih =>
    intro off ps h i T s hi
    cases ps with
    | nil => simp at hi
    | cons p ps =>
      obtain ⟨T0, s0⟩ := p
      simp only [chkF, Bool.and_eq_true, beq_iff_eq] at h
      obtain ⟨⟨⟨h1, h2⟩, h3⟩, h4⟩ := h
      cases i with
      | zero => simp at hi; obtain ⟨rfl, rfl⟩ := hi; exact ⟨f, rfl, h1, h2, by simp [offs, h3]⟩
      | succ i =>
        obtain ⟨g, g1, g2, g3, g4⟩ := ih h4 i T s (by simpa using hi)
        exact ⟨g, by simpa using g1, g2, g3, by rw [g4]; simp [offs]; omega⟩
theorem opens_struct {P : Program} {T : TypeId} {fs : Array Field} {parts : List (TypeId × Nat)} {size : Nat} {α : Type} {en : α → List D} {wf : α → Prop} (hu : P.underlying T = some (.struct fs)) (hc : P.cellsOf T = size) (hf : chkF P fs.toList 0 parts = true) (hp : OpensP P parts size en wf) : Opens P T size en wf := by
  refine ⟨hc, fun enc w base spare held n cs x hx => ?_⟩
  obtain ⟨xs, k, _, _, hl, hxl, hx'⟩ := DataW.trod_struct hu hx
  refine hp enc w base spare held k cs (by rw [hl, hc]) fun i T' s hi => ?_
  obtain ⟨f, h1, h2, h3, h4⟩ := chkF_at hf i T' s hi
  have h5 := hx' i f (by simpa using h1)
  have hi' : i < fs.size := by simpa using (List.getElem?_eq_some_iff.1 h1).1
  rw [h2, ← h2, h3, h4, Nat.zero_add, h2] at h5
  exact ⟨xs[i]'(by omega), by rw [h5]; simp [hxl, hi']⟩
theorem offs_replicate {E s n : Nat} : ∀ {i : Nat}, i ≤ n → offs (List.replicate n (E, s)) i = i * s := by
  intro i hi
  simp [offs, List.take_replicate, Nat.min_eq_left hi]
theorem opens_array {P : Program} {T E : TypeId} {m s size : Nat} {α : Type} {en : α → List D} {wf : α → Prop} (hu : P.underlying T = some (.array m E)) (hc : P.cellsOf T = size) (he : P.cellsOf E = s) (hp : OpensP P (List.replicate m (E, s)) size en wf) : Opens P T size en wf := by
  refine ⟨hc, fun enc w base spare held n cs x hx => ?_⟩
  obtain ⟨xs, k, _, _, hl, hxl, hx'⟩ := DataW.trod_array hu hx
  refine hp enc w base spare held k cs (by rw [hl, hc]) fun i T' s' hi => ?_
  have hlt : i < m := by simpa using (List.getElem?_eq_some_iff.1 hi).1
  simp [List.getElem?_replicate, hlt] at hi
  obtain ⟨rfl, rfl⟩ := hi
  have h5 := hx' i hlt
  rw [he] at h5
  rw [offs_replicate (Nat.le_of_lt hlt)]
  exact ⟨xs[i]'(by omega), by rw [h5]; simp [hxl, hlt]⟩

section
variable {H : Type} {enc : TypeId × Value → H} {P : Program} {w : World} {base b0 : Nat} {spare : Nat → Bool} {held : Bool} {t : TypeId} {r : Reach} {v : Value} {d : DataW H} {p : List MemPlace}
theorem arg_slice {E : TypeId} {size : Nat} {α : Type} {en : α → List D} {wf : List α → Prop} (ht : P.underlying t = some (.slice E)) (ho : Opens P t 1 (fun xs : List α => [D.s size (xs.map en)]) wf) (hv : Value.okWide P w r b0 t v) (h : DataW.Trod enc P w base spare held t v d p) :
    ∃ xs : List α, wf xs ∧ reads size (xs.map en) w (fun b => b < w.heap.size) v := by
  obtain ⟨a, len, cap, rfl⟩ := okWide_slice ht hv
  obtain ⟨n, hn⟩ := h
  obtain ⟨xs, h1, h2⟩ := ho.2 enc w base spare held n _ _ hn
  obtain ⟨u, us, e, h3, h4⟩ := okL_cons h2
  have e2 := okL_nil h4
  subst e2
  have : u = .slice a len cap := by simpa [Value.cells] using e.symm
  subst this
  exact ⟨xs, h1, h3⟩
theorem arg_agg {size : Nat} {α : Type} {en : α → List D} {wf : α → Prop} (hv : ∃ cs, v = .agg cs) (ho : Opens P t size en wf) (h : DataW.Trod enc P w base spare held t v d p) :
    ∃ (a : α) (cs : List Value), wf a ∧ v = .agg cs.toArray ∧ OkL w cs (en a) := by
  obtain ⟨cs, rfl⟩ := hv
  obtain ⟨n, hn⟩ := h
  obtain ⟨a, h1, h2⟩ := ho.2 enc w base spare held n _ _ hn
  exact ⟨a, cs.toList, h1, by simp, by simpa [Value.cells] using h2⟩
theorem agg_array {n : Nat} {e : TypeId} (ht : P.underlying t = some (.array n e)) (h : Value.okWide P w r b0 t v) : ∃ cs, v = .agg cs := by
  simp only [Value.okWide, ht] at h
  obtain ⟨cs, h1, _⟩ := h
  exact ⟨cs, h1⟩
theorem agg_struct {fs : Array Field} (ht : P.underlying t = some (.struct fs)) (h : Value.okWide P w r b0 t v) : ∃ cs, v = .agg cs := by
  simp only [Value.okWide, ht] at h
  obtain ⟨cs, h1, _⟩ := h
  exact ⟨cs, h1⟩
end
theorem reads_slice {size : Nat} {els : List (List D)} {W : World} {R : Nat → Prop} {v : Value} (h : reads size els W R v) : ∃ a n cap, v = .slice a n cap := by
  obtain ⟨a, cap, h, _⟩ := h
  exact ⟨a, _, cap, h⟩
/-- the contract at the arguments that came in -/
theorem FC.run {P : Program} {f : Nat} {args : List AV} {need : List NEnt} {b : Bool} {vs : Array Value} {W : World} (h : FC P f args need (.val (.bool b)) []) (env : Env) (hvs : (AV.denL env args).toArray = vs) (hn : ∀ x ∈ need, x.holds env W (fun _ => False) (fun b => b < W.heap.size)) :
    Calls P f vs W fun e W' => e = .returned (.bool b) ∧ Below W.heap.size W W' := by
  subst hvs
  refine (h env W (fun b => b < W.heap.size) hn (fun _ h => h)).mono ?_
  rintro e W' ⟨u, rfl, env', O', R', _, rfl, hst⟩
  exact ⟨rfl, hst.keep.below⟩
end Go.Proofs.Ytpjlihkpnhamlaa.Sy
end

/- Secondary dials as plain functions on integers: no program here. -/
section
set_option linter.unusedSimpArgs false
set_option linter.unusedVariables false
namespace Go.Proofs.Ytpjlihkpnhamlaa
namespace Pu

/-- the error of a line -/
def lineErr (r e c : Int) : Int :=
  if r = 0 then (if e ≠ 0 ∨ c ≠ 0 then 2 else 0)
  else if r < 0 ∨ 3 < r ∨ e < 2 ∨ 360 < e ∨ 720 % e ≠ 0 ∨ c < 0 ∨ (e - 1) / 2 < c then 2 else 0

structure Ln where
  r : Int
  e : Int
  c : Int
structure Dl where
  s : Int
  k : Int

def Ln.ok (l : Ln) : Prop := (l.r = 0 ∧ l.e = 0 ∧ l.c = 0) ∨ (1 ≤ l.r ∧ l.r ≤ 3 ∧ 2 ≤ l.e ∧ l.e ≤ 360 ∧ 720 % l.e = 0 ∧ 0 ≤ l.c ∧ l.c ≤ (l.e - 1) / 2)
theorem ok_of_err {r e c : Int} (h : lineErr r e c = 0) : (Ln.mk r e c).ok := by
  unfold lineErr at h
  unfold Ln.ok
  simp only
  split at h
  · split at h <;> simp_all
  · split at h
    · simp at h
    · right
      omega
theorem err_of_ok {l : Ln} (h : l.ok) : lineErr l.r l.e l.c = 0 := by
  unfold lineErr
  rcases h with ⟨h1, h2, h3⟩ | ⟨h1, h2, h3, h4, h5, h6, h7⟩
  · simp [h1, h2, h3]
  · rw [if_neg (by omega), if_neg (by omega)]
theorem err_two {r e c : Int} (h : lineErr r e c ≠ 0) : lineErr r e c = 2 := by
  unfold lineErr at *
  repeat' split
  all_goals simp_all

def isLong (l : Ln) (t : Int) : Bool := !(l.r == 0) && t % l.e == 0
def mv (l : Ln) (long : Bool) (d : Dl) : Dl := if l.r = 2 ∧ long = false ∧ d.s % l.e = l.e - 1 then d else ⟨(d.s + 1) % 720, d.k + 1⟩
def cby (l : Ln) (d : Dl) : Int :=
  if l.r = 1 then (if d.s % l.e ≤ l.c then -(d.s % l.e) else l.e - d.s % l.e)
  else if l.r = 2 then (l.e - d.s % l.e) % l.e else l.e - d.k
def cor (l : Ln) (d : Dl) : Dl := if -l.c ≤ cby l d ∧ cby l d ≤ l.c then ⟨(d.s + cby l d + 720) % 720, 0⟩ else ⟨d.s, 0⟩
def mvs (l : Ln) (long : Bool) : Nat → Dl → Dl
  | 0, d => d
  | n + 1, d => mv l long (mvs l long n d)
def imp (l : Ln) (t : Int) (m : Nat) (d : Dl) : Dl := if isLong l t = true then cor l (mvs l true m d) else mvs l false m d
def start (l : Ln) (s t : Int) : Dl := if l.r = 0 then ⟨s, 0⟩ else ⟨s, t % l.e⟩

/-- what a dial can be -/
def Dl.ok (B : Int) (d : Dl) : Prop := 0 ≤ d.s ∧ d.s < 720 ∧ 0 ≤ d.k ∧ d.k ≤ B
theorem mv_ok {l : Ln} {long : Bool} {d : Dl} {B : Int} (h : d.ok B) : (mv l long d).ok (B + 1) := by
  unfold mv Dl.ok at *
  split
  · omega
  · simp only; omega
theorem mvs_ok {l : Ln} {long : Bool} {d : Dl} {B : Int} (h : d.ok B) : ∀ n, (mvs l long n d).ok (B + n)
  | 0 => by simpa [mvs] using h
  | n + 1 => by
    have := mv_ok (l := l) (long := long) (mvs_ok (l := l) (long := long) h n)
    simp only [mvs]
    unfold Dl.ok at *
    omega
theorem cor_ok {l : Ln} {d : Dl} {B : Int} (h : d.ok B) (hB : 0 ≤ B) : (cor l d).ok 0 := by
  unfold cor Dl.ok at *
  split
  · simp only; omega
  · simp only; omega
theorem imp_ok {l : Ln} {t : Int} {m : Nat} {d : Dl} {B : Int} (h : d.ok B) (hB : 0 ≤ B) : (imp l t m d).ok (B + m) := by
  unfold imp
  split
  · have := cor_ok (l := l) (mvs_ok (l := l) (long := true) h m) (by omega)
    unfold Dl.ok at *
    omega
  · exact mvs_ok h m
theorem start_ok {l : Ln} (hl : l.ok) {s t : Int} (h0 : 0 ≤ s) (h1 : s < 720) (ht : 0 ≤ t) : (start l s t).ok 360 := by
  unfold start Dl.ok
  rcases hl with ⟨a, b, c⟩ | ⟨a, b, c, d, _⟩
  · rw [if_pos a]; simp only; omega
  · rw [if_neg (by omega)]
    have := Int.emod_nonneg t (show l.e ≠ 0 by omega)
    have := Int.emod_lt_of_pos t (show 0 < l.e by omega)
    simp only; omega
end Pu
end Go.Proofs.Ytpjlihkpnhamlaa
end

/- Small words for all walks of this seat: what a call returns and what it leaves alone; slices that read as lists of integers. -/
section
set_option linter.unusedSimpArgs false
set_option linter.unusedVariables false
namespace Go.Proofs.Ytpjlihkpnhamlaa
open Go.RowKit Go.Shelf

/-- the call returned a value and turned nothing that was there -/
def Ret (w : World) (v : Value) (e : Ending) (w' : World) : Prop := e = .returned v ∧ Below w.heap.size w w'
theorem ret_int {w w' : World} {k : IntKind} {a b : Int} (h : b = a) (hb : Below w.heap.size w w') : Ret w (.int k a) (.returned (.int k b)) w' := ⟨by rw [h], hb⟩
theorem ret_bool {w w' : World} {a b : Bool} (h : b = a) (hb : Below w.heap.size w w') : Ret w (.bool a) (.returned (.bool b)) w' := ⟨by rw [h], hb⟩
theorem ret_any {w w' : World} {a b : Value} (h : b = a) (hb : Below w.heap.size w w') : Ret w a (.returned b) w' := ⟨by rw [h], hb⟩

theorem bcell {W w1 : World} (hb : Below W.heap.size W w1) : (∀ b o, b < W.heap.size → w1.cell? ⟨b, o, none⟩ = W.cell? ⟨b, o, none⟩) ∧ (∀ b o, b < W.heap.size → w1.frozen? ⟨b, o, none⟩ = W.frozen? ⟨b, o, none⟩) ∧ (∀ k, k < W.heap.size → k < w1.heap.size) :=
  ⟨fun b o h => hb.cell (p := ⟨b, o, none⟩) h, fun b o h => hb.frozen (p := ⟨b, o, none⟩) h, fun k h => Nat.lt_of_lt_of_le h hb.size⟩
theorem belowDrewN {B n : Nat} {a w : World} (h : Below B a w) : Below B a (w.drewN n) := ⟨h.os, h.tape, h.output, h.size, h.block⟩

/-- a whole block of cells of the call's own -/
def Blk (w : World) (b : Nat) (vs : Array Value) (t : TypeId) : Prop := w.heap[b]? = some (.cells vs t (0, 0))
theorem Blk.lt {w : World} {b : Nat} {vs : Array Value} {t : TypeId} (h : Blk w b vs t) : b < w.heap.size := (Array.getElem?_eq_some_iff.1 h).1
theorem Blk.cell {w : World} {b : Nat} {vs : Array Value} {t : TypeId} (h : Blk w b vs t) (i : Nat) {v : Value} (hi : vs[i]? = some v) : w.cell? ⟨b, i, none⟩ = some v := by
  simp [World.cell?, show w.heap[b]? = _ from h, hi]
theorem Blk.free {w : World} {b : Nat} {vs : Array Value} {t : TypeId} (h : Blk w b vs t) (i : Nat) : w.frozen? ⟨b, i, none⟩ = false := by
  simp [World.frozen?, show w.heap[b]? = _ from h]
theorem Blk.below {w w' : World} {b : Nat} {vs : Array Value} {t : TypeId} (h : Blk w b vs t) (hb : Below w.heap.size w w') : Blk w' b vs t :=
  (hb.block b h.lt).trans h
theorem Blk.new (w : World) (vs : Array Value) (t : TypeId) : Blk (w.alloc (.cells vs t)) w.heap.size vs t := World.alloc_heap_new w _
theorem Blk.alloc {w : World} {b : Nat} {vs : Array Value} {t : TypeId} (h : Blk w b vs t) (o : Obj) : Blk (w.alloc o) b vs t := (Below.heap_alloc w o b h.lt).trans h
theorem Blk.drew {w : World} {b : Nat} {vs : Array Value} {t : TypeId} (h : Blk w b vs t) : Blk w.drew b vs t := h
theorem Blk.drewN {w : World} {b : Nat} {vs : Array Value} {t : TypeId} (h : Blk w b vs t) (n : Nat) : Blk (w.drewN n) b vs t := h
theorem Blk.other {w : World} {b : Nat} {vs : Array Value} {t : TypeId} (h : Blk w b vs t) {a : Addr} (v : Value) (ne : b ≠ a.block) : Blk (w.setCell a v) b vs t := (Below.heap_setCell w a v b ne).trans h
theorem Blk.set {w : World} {b : Nat} {vs : Array Value} {t : TypeId} (h : Blk w b vs t) (i : Nat) (v : Value) : Blk (w.setCell ⟨b, i, none⟩ v) b (vs.setIfInBounds i v) t := by
  obtain ⟨hlt, hk⟩ := Array.getElem?_eq_some_iff.1 h
  show (w.heap.modify b _)[b]? = _
  rw [Array.getElem?_eq_getElem (by rw [Array.size_modify]; exact hlt), Array.getElem_modify_self, hk]
  rfl

theorem blk_at {w : World} {b : Nat} {vs : Array Value} {t : TypeId} (h : b = w.heap.size) : Blk (w.alloc (.cells vs t)) b vs t := by subst h; exact Blk.new w vs t

/-- a world behind some doing that turned nothing that was there -/
def Later (w : World) := { w' : World // Below w.heap.size w w' }
instance (w : World) : Nonempty (Later w) := ⟨⟨w, Below.refl _ w⟩⟩
theorem later_cell {w : World} (x : Later w) {b o : Nat} {v : Value} (hb : b < w.heap.size) (h : w.cell? ⟨b, o, none⟩ = some v) : x.1.cell? ⟨b, o, none⟩ = some v :=
  (x.2.cell (p := ⟨b, o, none⟩) hb).trans h
theorem Blk.later {w : World} {b : Nat} {vs : Array Value} {t : TypeId} (h : Blk w b vs t) (i : Nat) {v : Value} (hi : vs[i]? = some v) (x : Later w) : x.1.cell? ⟨b, i, none⟩ = some v := later_cell x h.lt (h.cell i hi)
theorem later_call {P : Program} {f : Nat} {args : Array Value} {v : Value} {w : World} {x : Later w} (h : Calls P f args x.1 (Ret x.1 v)) :
    Calls P f args x.1 (fun e w'' => e = .returned v ∧ ∃ y : Later w, w'' = y.1) :=
  h.mono fun e w' ⟨he, hb⟩ => ⟨he, ⟨w', x.2.trans (hb.mono x.2.size)⟩, rfl⟩
/-- a region that draws its order, whose operations read what was there and whose callees leave that alone: one walk in the text's order -/
theorem wp_region_later {P : Program} {id : Nat} {Q : Exit → Act → World → Prop} {a : Act} {w : World} {l : List Oper} (hm : P.follows .mixedOrders = true) (hB : Region.lexB .any l.toArray = true)
    (h : wpQuiet P l.toArray (fun w' => ∃ x : Later w, w' = x.1) (fun a' => ∀ w', (∃ x : Later w, w' = x.1) → Q .normal a' w') l a) : (Code.region id l.toArray true).wp P Q a w :=
  wp_region_quiet (C := fun w' => ∃ x : Later w, w' = x.1) hm hB ⟨⟨_, (Below.refl _ w).drew⟩, rfl⟩ (by simpa using h)
/-- the world under a name -/
theorem wp_name {P : Program} {c : Code} {Q : Exit → Act → World → Prop} {a : Act} {w : World} (h : ∀ W, W = w → c.wp P Q a W) : c.wp P Q a w := h w rfl
theorem calls_name {P : Program} {f : Nat} {args : Array Value} {R : Ending → World → Prop} {w : World} (h : ∀ W, W = w → Calls P f args W R) : Calls P f args w R := h w rfl

/-- a slice value (its address may be nil where it is empty) that reads as a list of ints -/
def IsInts (w : World) (a : Option Addr) (zs : List Int) : Prop :=
  zs.length ≤ 140737488355327 ∧ (∀ i (_ : i < zs.length), ∃ b o, a = some ⟨b, o, none⟩ ∧ b < w.heap.size ∧ w.cell? ⟨b, o + i, none⟩ = some (.int .i64 zs[i]))
theorem IsInts.below {w w' : World} {a : Option Addr} {zs : List Int} (h : IsInts w a zs) (hb : Below w.heap.size w w') : IsInts w' a zs :=
  ⟨h.1, fun i hi => by
    obtain ⟨b, o, e, hlt, hc⟩ := h.2 i hi
    exact ⟨b, o, e, Nat.lt_of_lt_of_le hlt hb.size, by rw [hb.cell (p := ⟨b, o + i, none⟩) hlt]; exact hc⟩⟩

/-- a function value that decides a predicate on ints, in every later world -/
def Decides (P : Program) (w : World) (f : Nat) (cap : Array Value) (p : Int → Bool) (zs : List Int) : Prop :=
  ∀ w' n, Below w.heap.size w w' → n ∈ zs → Calls P f (#[.int .i64 n] ++ cap) w' (Ret w' (.bool (p n)))
/-- the first index at which a predicate holds -/
def idx {α : Type} (p : α → Bool) (zs : List α) : Int := match zs.findIdx? p with | some i => i | none => -1
theorem idx_none {α : Type} (p : α → Bool) (zs : List α) (k : Nat) (h : ∀ j (_ : j < zs.length), j < k → p zs[j] = false) (hk : zs.length ≤ k) : idx p zs = -1 := by
  have : zs.findIdx? p = none := by
    rw [List.findIdx?_eq_none_iff]
    intro x hx
    obtain ⟨i, hi, rfl⟩ := List.getElem_of_mem hx
    exact h i hi (by omega)
  simp [idx, this]
theorem idx_some {α : Type} (p : α → Bool) (zs : List α) (k : Nat) (h : ∀ j (_ : j < zs.length), j < k → p zs[j] = false) (hk : k < zs.length) (hp : p zs[k] = true) : idx p zs = k := by
  have : zs.findIdx? p = some k := by
    rw [List.findIdx?_eq_some_iff_getElem]
    refine ⟨hk, hp, fun j hj => ?_⟩
    simp [h j (by omega) hj]
  simp [idx, this]
theorem idx_any {α : Type} (p : α → Bool) (zs : List α) : decide (0 ≤ idx p zs) = zs.any p := by
  unfold idx
  cases h : zs.findIdx? p with
  | none => rw [List.findIdx?_eq_none_iff] at h; simp; exact h
  | some i =>
    rw [List.findIdx?_eq_some_iff_getElem] at h
    obtain ⟨h1, h2, _⟩ := h
    have : zs.any p = true := List.any_eq_true.2 ⟨zs[i], by simp, h2⟩
    simp [this]
/-- all of a list lie between two numbers -/
def inRange (lo hi : Int) (zs : List Int) : Bool := !(zs.any fun n => decide (n < lo) || decide (hi < n))
/-- a number lies between two others -/
def btw (lo hi n : Int) : Bool := decide (lo ≤ n ∧ n ≤ hi)
theorem btw_iff {lo hi n : Int} : btw lo hi n = true ↔ lo ≤ n ∧ n ≤ hi := by simp [btw]
theorem btw_not {lo hi n : Int} : btw lo hi n = false ↔ n < lo ∨ hi < n := by simp [btw]; omega
theorem btw_not' {lo hi n : Int} : btw lo hi n = false ↔ ¬(lo ≤ n ∧ n ≤ hi) := by simp [btw]
theorem inRange_one (lo hi n : Int) : inRange lo hi [n] = btw lo hi n := by
  rw [Bool.eq_iff_iff]; simp [inRange, btw]
theorem inRange_two (lo hi n m : Int) : inRange lo hi [n, m] = (btw lo hi n && btw lo hi m) := by
  rw [Bool.eq_iff_iff]; simp [inRange, btw]
end Go.Proofs.Ytpjlihkpnhamlaa
end

/- The walks of the reference's small functions on dials. -/
section
set_option linter.unusedSimpArgs false
set_option linter.unusedVariables false
namespace Go.Proofs.Ytpjlihkpnhamlaa
open Go.RowKit Go.Shelf

namespace Pu
def rcor (l : Ln) (d : Dl) : Dl :=
  if l.r = 1 then (if d.s % l.e ≤ l.c then ⟨d.s - d.s % l.e, 0⟩ else if l.e - d.s % l.e ≤ l.c then ⟨(d.s + l.e - d.s % l.e) % 720, 0⟩ else ⟨d.s, 0⟩)
  else if l.r = 2 then (if 0 < d.s % l.e ∧ l.e - d.s % l.e ≤ l.c then ⟨(d.s + l.e - d.s % l.e) % 720, 0⟩ else ⟨d.s, 0⟩)
  else (if -l.c ≤ l.e - d.k ∧ l.e - d.k ≤ l.c then ⟨(d.s + (l.e - d.k) + 720) % 720, 0⟩ else ⟨d.s, 0⟩)
theorem rcor_cor {l : Ln} {d : Dl} (h1 : 1 ≤ l.r) (h2 : 2 ≤ l.e) (h3 : 0 ≤ l.c) (h4 : l.c ≤ (l.e - 1) / 2) (h5 : 0 ≤ d.s) (h6 : d.s < 720) : rcor l d = cor l d := by
  obtain ⟨r, e, c⟩ := l
  obtain ⟨s, k⟩ := d
  dsimp only at *
  have m0 : 0 ≤ s % e := Int.emod_nonneg _ (by omega)
  have m1 : s % e < e := Int.emod_lt_of_pos _ (by omega)
  have m2 : s % e ≤ s := by
    rcases Int.lt_or_le s e with h | h
    · rw [Int.emod_eq_of_lt h5 h]; exact Int.le_refl _
    · omega
  have m3 : (e - s % e) % e = if s % e = 0 then 0 else e - s % e := by
    split
    · rename_i h; rw [h]; simp
    · rw [Int.emod_eq_of_lt (by omega) (by omega)]
  unfold rcor cor cby
  dsimp only
  rw [m3]
  generalize s % e = m at *
  by_cases r1 : r = 1
  · simp only [if_pos r1]
    by_cases q : m ≤ c
    · simp only [if_pos q]; rw [if_pos (by omega)]; congr 1; omega
    · simp only [if_neg q]
      by_cases q2 : e - m ≤ c
      · rw [if_pos q2, if_pos (by omega)]; congr 1; omega
      · rw [if_neg q2, if_neg (by omega)]
  · simp only [if_neg r1]
    by_cases r2 : r = 2
    · simp only [if_pos r2]
      by_cases q : m = 0
      · rw [if_neg (by omega)]; simp only [if_pos q]; rw [if_pos (by omega)]; congr 1; omega
      · simp only [if_neg q]
        by_cases q2 : e - m ≤ c
        · rw [if_pos (by omega), if_pos (by omega)]; congr 1; omega
        · rw [if_neg (by omega), if_neg (by omega)]
    · simp only [if_neg r2]
def rimp (l : Ln) (t : Int) (m : Nat) (d : Dl) : Dl := if isLong l t = true then rcor l (mvs l true m d) else mvs l false m d
theorem rimp_imp {l : Ln} (hl : l.ok) {t : Int} {m : Nat} {d : Dl} {B : Int} (h : d.ok B) : rimp l t m d = imp l t m d := by
  unfold rimp imp
  split
  · rename_i hL
    rcases hl with ⟨h1, _⟩ | ⟨h1, h2, h3, h4, h5, h6, h7⟩
    · simp [isLong, h1] at hL
    · have := mvs_ok (l := l) (long := true) h m
      exact rcor_cor h1 h3 h6 h7 this.1 this.2.1
  · rfl
/-- how often the impulse of a minute moves a dial -/
def movesAt (fs : List (Int × Int)) (t : Int) : Nat := match fs.find? (fun f => f.1 == t) with | some f => if f.2 = 1 then 0 else 2 | none => 1
end Pu

/-- a slice value that reads as a list of pairs of integers -/
def IsPairs (w : World) (a : Option Addr) (fs : List (Int × Int)) : Prop :=
  fs.length ≤ 140737488355327 ∧ (∀ i (_ : i < fs.length), ∃ b o, a = some ⟨b, o, none⟩ ∧ b < w.heap.size ∧ w.cell? ⟨b, o + i * 2, none⟩ = some (.int .i64 fs[i].1) ∧ w.cell? ⟨b, o + i * 2 + 1, none⟩ = some (.int .i64 fs[i].2))
theorem IsPairs.below {w w' : World} {a : Option Addr} {zs : List (Int × Int)} (h : IsPairs w a zs) (hb : Below w.heap.size w w') : IsPairs w' a zs :=
  ⟨h.1, fun i hi => by
    obtain ⟨b, o, e, hlt, hc, hd⟩ := h.2 i hi
    exact ⟨b, o, e, Nat.lt_of_lt_of_le hlt hb.size, by rw [hb.cell (p := ⟨b, o + i * 2, none⟩) hlt]; exact hc, by rw [hb.cell (p := ⟨b, o + i * 2 + 1, none⟩) hlt]; exact hd⟩⟩

set_option maxHeartbeats 400000 in
theorem refLong_any (r e c t : Int) (w : World) (h : (Pu.Ln.mk r e c).ok) (ht : 0 ≤ t) :
    Calls Try.prog 42 #[.agg #[.int .i64 r, .int .i64 e, .int .i64 c], .int .i64 t] w (Ret w (.bool (Pu.isLong ⟨r, e, c⟩ t))) := by
  rcases h with ⟨rfl, rfl, rfl⟩ | ⟨h1, h2, h3, h4, h5, h6, h7⟩
  · go_enter Try.func42, Try.ntmps42
    go_wp2
    go_ret
    exact ret_bool (by simp [Pu.isLong]) (by repeat first | exact Below.refl _ _ | assumption | (refine Below.alloc ?_ (by first | omega | (simp; done) | (simp; omega)) _) | (refine Below.setCell ?_ (by first | omega | (simp; done) | (simp; omega)) _) | (refine Below.drew ?_) | (refine belowDrewN ?_) | (refine Below.trans ?_ (Below.mono (by assumption) (by first | omega | (simp; done) | (simp; omega)))))
  · simp only at h1 h2 h3 h4
    have hne : (r != 0) = true := by simp; omega
    clear h5 h6 h7
    go_enter Try.func42, Try.ntmps42
    go_wp2
    go_ret
    refine ret_bool ?_ (by repeat first | exact Below.refl _ _ | assumption | (refine Below.alloc ?_ (by first | omega | (simp; done) | (simp; omega)) _) | (refine Below.setCell ?_ (by first | omega | (simp; done) | (simp; omega)) _) | (refine Below.drew ?_) | (refine belowDrewN ?_) | (refine Below.trans ?_ (Below.mono (by assumption) (by first | omega | (simp; done) | (simp; omega)))))
    have : (r == 0) = false := by simp; omega
    simp [Pu.isLong, this]

set_option maxHeartbeats 400000 in
theorem refMinute_any (t : Int) (w : World) : Calls Try.prog 17 #[.int .i64 t] w (Ret w (.bool (btw 0 100000 t))) := by
  go_enter Try.func17, Try.ntmps17
  go_wp2
  all_goals (go_ret; refine ret_bool ?_ (by repeat first | exact Below.refl _ _ | assumption | (refine Below.alloc ?_ (by first | omega | (simp; done) | (simp; omega)) _) | (refine Below.setCell ?_ (by first | omega | (simp; done) | (simp; omega)) _) | (refine Below.drew ?_) | (refine belowDrewN ?_) | (refine Below.trans ?_ (Below.mono (by assumption) (by first | omega | (simp; done) | (simp; omega))))); unfold btw; (first | (simp [*]; done) | (simp [*]; omega) | (simp_all; done) | (simp_all; omega)))

set_option maxHeartbeats 1000000 in
theorem refCheck_any (r e c : Int) (w : World) (hr : (Lit.int .i64 r).wf = true) (he : (Lit.int .i64 e).wf = true) (hc : (Lit.int .i64 c).wf = true) :
    Calls Try.prog 14 #[.agg #[.int .i64 r, .int .i64 e, .int .i64 c]] w (Ret w (.int .i64 (Pu.lineErr r e c))) := by
  go_enter Try.func14, Try.ntmps14
  go_wp2
  all_goals (go_ret; refine ret_int ?_ (by repeat first | exact Below.refl _ _ | assumption | (refine Below.alloc ?_ (by first | omega | (simp; done) | (simp; omega)) _) | (refine Below.setCell ?_ (by first | omega | (simp; done) | (simp; omega)) _) | (refine Below.drew ?_) | (refine belowDrewN ?_) | (refine Below.trans ?_ (Below.mono (by assumption) (by first | omega | (simp; done) | (simp; omega))))); (try simp only [Bool.not_eq_true', Bool.not_eq_false', btw_iff, btw_not', beq_iff_eq, beq_eq_false_iff_ne, bne_iff_ne, bne_eq_false_iff_eq, ne_eq, Bool.not_eq_true, decide_eq_true_eq, decide_eq_false_iff_not, Int.not_lt, Int.not_le] at *); unfold Pu.lineErr; (repeat' split) <;> (first | rfl | (exfalso; omega) | (simp_all; done) | (simp_all; omega)))

set_option maxHeartbeats 400000 in
theorem refNew_any (r e c s t : Int) (w : World) (h : (Pu.Ln.mk r e c).ok) (ht : 0 ≤ t) :
    Calls Try.prog 19 #[.agg #[.int .i64 r, .int .i64 e, .int .i64 c], .int .i64 s, .int .i64 t] w (Ret w (.agg #[.int .i64 (Pu.start ⟨r, e, c⟩ s t).s, .int .i64 (Pu.start ⟨r, e, c⟩ s t).k])) := by
  rcases h with ⟨h4, h5, h6⟩ | ⟨h4, h5, h6, h7, h8, h9, h10⟩
  · dsimp only at h4 h5 h6
    subst h4 h5 h6
    go_enter Try.func19, Try.ntmps19
    go_wp2
    (refine bodyPost_ret (v := .agg #[.int .i64 (Pu.start ⟨0, 0, 0⟩ s t).s, .int .i64 (Pu.start ⟨0, 0, 0⟩ s t).k]) ?_ rfl (ret_any rfl (by repeat first | exact Below.refl _ _ | assumption | (refine Below.alloc ?_ (by first | omega | (simp; done) | (simp; omega)) _) | (refine Below.setCell ?_ (by first | omega | (simp; done) | (simp; omega)) _) | (refine Below.drew ?_) | (refine belowDrewN ?_) | (refine Below.trans ?_ (Below.mono (by assumption) (by first | omega | (simp; done) | (simp; omega)))))); (simp (maxDischargeDepth := 9) [results, Try.results19, go_sem, *]); (try simp only [beq_iff_eq, beq_eq_false_iff_ne, bne_iff_ne, bne_eq_false_iff_eq, ne_eq, Bool.not_eq_true, Bool.not_eq_true', Bool.not_eq_false', btw_iff, btw_not', Int.not_lt, Int.not_le] at *); (all_goals (try simp [Pu.start, *]); all_goals (try (repeat' split)); all_goals (try first | rfl | omega | (exfalso; omega) | (simp_all; done) | (simp_all; omega) | (constructor <;> omega))))
  · dsimp only at h4 h5 h6 h7
    have hne : (e == 0) = false := by simp; omega
    clear h8 h9 h10
    go_enter Try.func19, Try.ntmps19
    go_wp2
    (refine bodyPost_ret (v := .agg #[.int .i64 (Pu.start ⟨r, e, c⟩ s t).s, .int .i64 (Pu.start ⟨r, e, c⟩ s t).k]) ?_ rfl (ret_any rfl (by repeat first | exact Below.refl _ _ | assumption | (refine Below.alloc ?_ (by first | omega | (simp; done) | (simp; omega)) _) | (refine Below.setCell ?_ (by first | omega | (simp; done) | (simp; omega)) _) | (refine Below.drew ?_) | (refine belowDrewN ?_) | (refine Below.trans ?_ (Below.mono (by assumption) (by first | omega | (simp; done) | (simp; omega)))))); (simp (maxDischargeDepth := 9) [results, Try.results19, go_sem, *]); (try simp only [beq_iff_eq, beq_eq_false_iff_ne, bne_iff_ne, bne_eq_false_iff_eq, ne_eq, Bool.not_eq_true, Bool.not_eq_true', Bool.not_eq_false', btw_iff, btw_not', Int.not_lt, Int.not_le] at *); (all_goals (try simp [Pu.start, *]); all_goals (try (repeat' split)); all_goals (try first | rfl | omega | (exfalso; omega) | (simp_all; done) | (simp_all; omega) | (constructor <;> omega))))

theorem movesAt_some (fs : List (Int × Int)) (t : Int) (k : Nat) (h : ∀ j (_ : j < fs.length), j < k → (fs[j].1 == t) = false) (hk : k < fs.length) (hp : (fs[k].1 == t) = true) :
    Pu.movesAt fs t = if fs[k].2 = 1 then 0 else 2 := by
  have : fs.find? (fun f => f.1 == t) = some fs[k] := by
    rw [List.find?_eq_some_iff_getElem]
    exact ⟨hp, k, hk, rfl, fun j hj => by simp [h j (by omega) hj]⟩
  simp [Pu.movesAt, this]

set_option maxHeartbeats 400000 in
theorem refMoves_any (a : Option Addr) (cp : Nat) (fs : List (Int × Int)) (t : Int) (w : World) (hf : IsPairs w a fs) :
    Calls Try.prog 44 #[.slice a fs.length cp, .int .i64 t] w (Ret w (.int .i64 (Pu.movesAt fs t))) := by
  have hlen := hf.1
  have HZ := Lib.hid hf; clear hf
  go_enter Try.func44, Try.ntmps44
  go_wp2
  go_loop [5] (fun i => ∃ k : Nat, k ≤ fs.length ∧ i = .int .i64 k ∧ (∀ j (_ : j < fs.length), j < k → (fs[j].1 == t) = false)) (fun i => fs.length - (intOf i).toNat)
  case atStart => exact ⟨0, Nat.zero_le _, rfl, fun j _ hj => by omega⟩
  case round =>
    obtain ⟨k, hk, rfl, hno⟩ := hrel
    have HN := Lib.hid hno; clear hno
    by_cases hlt : k < fs.length
    · obtain ⟨b, o, rfl, hbl, hc, hd⟩ := HZ.out.2 k hlt
      go_wp2
      · have h1 : (fs[k].1 == t) = true := by assumption
        have h2 : (fs[k].2 == 1) = true := by assumption
        go_ret
        exact ret_int (movesAt_some fs t k HN.out hlt h1 ▸ by simp_all) (by repeat first | exact Below.refl _ _ | assumption | (refine Below.alloc ?_ (by first | omega | (simp; done) | (simp; omega)) _) | (refine Below.setCell ?_ (by first | omega | (simp; done) | (simp; omega)) _) | (refine Below.drew ?_) | (refine belowDrewN ?_) | (refine Below.trans ?_ (Below.mono (by assumption) (by first | omega | (simp; done) | (simp; omega)))))
      · have h1 : (fs[k].1 == t) = true := by assumption
        have h2 : (fs[k].2 == 1) = false := by assumption
        go_ret
        exact ret_int (movesAt_some fs t k HN.out hlt h1 ▸ by simp_all) (by repeat first | exact Below.refl _ _ | assumption | (refine Below.alloc ?_ (by first | omega | (simp; done) | (simp; omega)) _) | (refine Below.setCell ?_ (by first | omega | (simp; done) | (simp; omega)) _) | (refine Below.drew ?_) | (refine belowDrewN ?_) | (refine Below.trans ?_ (Below.mono (by assumption) (by first | omega | (simp; done) | (simp; omega)))))
      · have h1 : (fs[k].1 == t) = false := by assumption
        have HP := Lib.hid h1
        exact ⟨⟨k + 1, by omega, by go_num, fun j h1 h2 => by rcases Nat.lt_succ_iff_lt_or_eq.1 h2 with h | h; exact HN.out j h1 h; subst h; exact HP.out⟩, by simp [intOf]; omega⟩
    · go_wp2
      go_ret
      refine ret_int ?_ (by repeat first | exact Below.refl _ _ | assumption | (refine Below.alloc ?_ (by first | omega | (simp; done) | (simp; omega)) _) | (refine Below.setCell ?_ (by first | omega | (simp; done) | (simp; omega)) _) | (refine Below.drew ?_) | (refine belowDrewN ?_) | (refine Below.trans ?_ (Below.mono (by assumption) (by first | omega | (simp; done) | (simp; omega)))))
      have : fs.find? (fun f => f.1 == t) = none := by
        rw [List.find?_eq_none]
        intro x hx
        obtain ⟨i, hi, rfl⟩ := List.getElem_of_mem hx
        simp [HN.out i hi (by omega)]
      simp [Pu.movesAt, this]

end Go.Proofs.Ytpjlihkpnhamlaa
end
