/- Texts joined into one: SymD, SymE, SymF, SymG, SymH. -/
import Derived.Test.YthgbjhglhejalaaBRSymAJ
import Derived.Laws.OwnMore
import Derived.StillTail
section
set_option linter.unusedSimpArgs false
set_option linter.unusedVariables false
namespace Go.Proofs.Ythgbjhglhejalaa.Sy
open Go.RowKit
theorem nodup_name_eq : ∀ (l : List NEnt), (l.map NEnt.name).Nodup → ∀ (i j : Nat) (a b : NEnt), l[i]? = some a → l[j]? = some b → a.name = b.name → i = j := by
  intro l hn i j a b hi hj hab;have hi' : (l.map NEnt.name)[i]? = some a.name := by simp [hi]
  have hj' : (l.map NEnt.name)[j]? = some a.name := by simp [hj, hab]
  have hlt : i < (l.map NEnt.name).length := (List.getElem?_eq_some_iff.1 hi').1;exact (List.getElem?_inj hlt hn).1 (by rw [hi', hj'])
theorem mem_set_cases {V : List NEnt} (hn : (V.map NEnt.name).Nodup) {k : Nat} {x y z : NEnt} (hk : V[k]? = some x) (hz : z ∈ V.set k y) : z = y ∨ (z ∈ V ∧ z.name ≠ x.name) := by
  obtain ⟨i, hi⟩ := List.mem_iff_getElem?.1 hz;rw [List.getElem?_set] at hi
  split at hi
  · split at hi
    · left; simpa using hi.symm
    · cases hi
  · rename_i hne
    exact .inr ⟨List.mem_of_getElem? hi, fun e => hne (nodup_name_eq V hn k i x z hk hi e.symm)⟩
theorem mem_erase_cases {V : List NEnt} (hn : (V.map NEnt.name).Nodup) {k : Nat} {x z : NEnt} (hk : V[k]? = some x) (hz : z ∈ V.eraseIdx k) : z ∈ V ∧ z.name ≠ x.name := by
  obtain ⟨i, hi⟩ := List.mem_iff_getElem?.1 hz;rw [List.getElem?_eraseIdx] at hi
  split at hi
  · rename_i hlt; exact ⟨List.mem_of_getElem? hi, fun e => by have := nodup_name_eq V hn k i x z hk hi e.symm; omega⟩
  · rename_i hlt; exact ⟨List.mem_of_getElem? hi, fun e => by have := nodup_name_eq V hn k (i + 1) x z hk hi e.symm; omega⟩
theorem set_names {V : List NEnt} {k : Nat} {x y : NEnt} (hk : V[k]? = some x) (h : y.name = x.name) : (V.set k y).map NEnt.name = V.map NEnt.name := by
  apply List.ext_getElem?;intro i;simp only [List.getElem?_map, List.getElem?_set]
  split
  · rename_i e; subst e
    split
    · rw [hk]; simp [h]
    · rename_i hlt; rw [List.getElem?_eq_none (by omega)]
  · rfl
theorem St.write {c : Ctx} {env : Env} {V : List NEnt} {W W' : World} {O : Nat → Nat → Prop} {R : Nat → Prop} (h : St c env V W O R) (k : Nat) {x y : NEnt} (hk : V[k]? = some x) (hkeep : Keep (fun b => O x.name b) W W') (hyn : y.name = x.name)
    (hy : y.holds env W' (O x.name) R) : St c env (V.set k y) W' O R := by
  have hx : x ∈ V := List.mem_of_getElem? hk;refine ⟨h.keep.trans hkeep (fun i hi ho => ?_), fun z hz => ?_, fun z hz b hb => ?_, fun z hz z2 hz2 hne b hb => ?_, fun b hb => ⟨Nat.lt_of_lt_of_le (h.ro b hb).1 hkeep.size, (h.ro b hb).2⟩, h.r0, by rw [set_names hk hyn]; exact h.names⟩
  · rcases (h.own x hx i ho).2.1 with h1 | h1
    · omega
    · exact h1
  · rcases mem_set_cases h.names hk hz with rfl | ⟨hz, hne⟩
    · rw [hyn]; exact hy
    · refine NEnt.holds_keep (fun b hb => ?_) (fun b hb => ⟨hb, ?_⟩) (h.holds z hz)
      · exact hkeep.block b (h.own z hz b hb).1 (fun ho => h.apart z hz x hx hne b ⟨hb, ho⟩)
      · exact hkeep.block b (h.ro b hb).1 (fun ho => (h.own x hx b ho).2.2 hb)
  · have : ∃ z' ∈ V, z'.name = z.name := by
      rcases mem_set_cases h.names hk hz with rfl | ⟨hz, _⟩
      · exact ⟨x, hx, hyn.symm⟩
      · exact ⟨z, hz, rfl⟩
    obtain ⟨z', hz', e⟩ := this;rw [← e] at hb;obtain ⟨h1, h2, h3⟩ := h.own z' hz' b hb;exact ⟨Nat.lt_of_lt_of_le h1 hkeep.size, h2, h3⟩
  · have key : ∀ z ∈ V.set k y, ∃ z' ∈ V, z'.name = z.name := by
      intro z hz;rcases mem_set_cases h.names hk hz with rfl | ⟨hz, _⟩
      · exact ⟨x, hx, hyn.symm⟩
      · exact ⟨z, hz, rfl⟩
    obtain ⟨z', hz', e⟩ := key z hz;obtain ⟨z2', hz2', e2⟩ := key z2 hz2;rw [← e, ← e2] at hb;exact h.apart z' hz' z2' hz2' (by rw [e, e2]; exact hne) b hb
theorem St.replace {c : Ctx} {env : Env} {V : List NEnt} {W W' : World} {O : Nat → Nat → Prop} {R : Nat → Prop} (h : St c env V W O R) (k : Nat) {x y : NEnt} {v : Value} {Or : Nat → Prop} (hk : V[k]? = some x) (hkeep : Keep (fun b => O x.name b) W W')
    (hOr : ∀ b, Or b → (O x.name b ∨ W.heap.size ≤ b) ∧ b < W'.heap.size) (hf : hasV y.name V = false) (hy : y.holds (setEnv env y.name v) W' Or R) :
    ∃ O', St c (setEnv env y.name v) (y :: V.eraseIdx k) W' O' R := by
  classical
  have hx : x ∈ V := List.mem_of_getElem? hk;have hne : ∀ z ∈ V, z.name ≠ y.name := fun z hz e => by
    have := mem_has hz (NEnt.has_name z);rw [e, hf] at this; cases this
  refine ⟨fun n b => if n = y.name then Or b else O n b, h.keep.trans hkeep (fun i hi ho => ?_), fun z hz => ?_, fun z hz b hb => ?_, fun z hz z2 hz2 hnn b hb => ?_,
    fun b hb => ⟨Nat.lt_of_lt_of_le (h.ro b hb).1 hkeep.size, (h.ro b hb).2⟩, h.r0, ?_⟩
  · rcases (h.own x hx i ho).2.1 with h1 | h1
    · omega
    · exact h1
  · rcases List.mem_cons.1 hz with rfl | hz
    · simpa using hy
    · obtain ⟨hz, hzx⟩ := mem_erase_cases h.names hk hz;simp only [hne z hz, if_false];refine NEnt.holds_congr (fun n hn => (setEnv_other fun e => by subst e; rw [mem_has hz hn] at hf; cases hf).symm) (NEnt.holds_keep (fun b hb => ?_) (fun b hb => ⟨hb, ?_⟩) (h.holds z hz))
      · exact hkeep.block b (h.own z hz b hb).1 (fun ho => h.apart z hz x hx hzx b ⟨hb, ho⟩)
      · exact hkeep.block b (h.ro b hb).1 (fun ho => (h.own x hx b ho).2.2 hb)
  · rcases List.mem_cons.1 hz with rfl | hz
    · simp only [if_true] at hb;obtain ⟨h1, h2⟩ := hOr b hb;refine ⟨h2, ?_, ?_⟩
      · rcases h1 with h1 | h1
        · exact (h.own x hx b h1).2.1
        · exact .inl (Nat.le_trans h.keep.size h1)
      · intro hr;rcases h1 with h1 | h1
        · exact (h.own x hx b h1).2.2 hr
        · have := (h.ro b hr).1; omega
    · obtain ⟨hz, _⟩ := mem_erase_cases h.names hk hz;simp only [hne z hz, if_false] at hb;obtain ⟨h1, h2, h3⟩ := h.own z hz b hb;exact ⟨Nat.lt_of_lt_of_le h1 hkeep.size, h2, h3⟩
  · have key : ∀ z ∈ V, z.name ≠ x.name → ∀ b, O z.name b → Or b → False := by
      intro z hz hzx b hb ho;rcases (hOr b ho).1 with h1 | h1
      · exact h.apart z hz x hx hzx b ⟨hb, h1⟩
      · have := (h.own z hz b hb).1; omega
    rcases List.mem_cons.1 hz with e1 | h1 <;> rcases List.mem_cons.1 hz2 with e2 | h2
    · exact hnn (by rw [e1, e2])
    · obtain ⟨hm2, hx2⟩ := mem_erase_cases h.names hk h2;simp only [e1, if_true, hne z2 hm2, if_false] at hb;exact key z2 hm2 hx2 b hb.2 hb.1
    · obtain ⟨hm1, hx1⟩ := mem_erase_cases h.names hk h1;simp only [e2, if_true, hne z hm1, if_false] at hb;exact key z hm1 hx1 b hb.1 hb.2
    · obtain ⟨hm1, _⟩ := mem_erase_cases h.names hk h1;obtain ⟨hm2, _⟩ := mem_erase_cases h.names hk h2;simp only [hne z hm1, hne z2 hm2, if_false] at hb;exact h.apart z hm1 z2 hm2 hnn b hb
  · simp only [List.map_cons, List.nodup_cons];refine ⟨fun hm => ?_, ?_⟩
    · obtain ⟨z, hz, e⟩ := List.mem_map.1 hm;exact hne z (mem_erase_cases h.names hk hz).1 e
    · exact h.names.sublist ((List.eraseIdx_sublist V k).map NEnt.name)
theorem take_splice {α : Type} (l : List α) (N k : Nat) (v : List α) (h : k + v.length ≤ N) (hN : N ≤ l.length) :
    (l.take k ++ v ++ l.drop (k + v.length)).take N = (l.take N).take k ++ v ++ (l.take N).drop (k + v.length) := by
  have h1 : min k l.length = k := by omega
  have h2 : min N k = k := by omega
  have h3 : min k N = k := by omega
  rw [List.append_assoc, List.take_append, List.take_append, List.length_take, h1, List.take_take, List.take_take, h2, h3, List.take_of_length_le (l := v) (by omega), List.drop_take, List.append_assoc]
  congr 3
  omega
theorem keep_setRow (W : World) (g : Nat) (cs : Array Value) (N : Nat → Prop) (h : N g) : Keep N W (W.setRow g cs) :=
  ⟨rfl, rfl, rfl, by simp [World.setRow], fun k hk hn => setRow_other W g k cs (fun e => hn (by rw [e]; exact h))⟩
section
variable {P : Program} {c : Ctx} {sz : Fm} {Q : Exit → Act → World → Prop} {t : List Item} {s : List (Nat × AV)} {V : List NEnt} {ops : Array Oper} {rest : List Oper} {o : Oper}
theorem coreB {ev : Operand → Value} {env : Env} {W : World} {O : Nat → Nat → Prop} {R : Nat → Prop} (hev : ∀ x a, rho s x = some a → ev x = a.den env) (hst : St c env V W O R) (k : Nat) {T n off : Nat} {x y : Operand} {cells : List AV} {T' : TypeId} {a : AV} (ho : o.op = .store T x y) (hx : rho s x = some (.ptr n off)) (hk : V[k]? = some (.blk n cells T')) (hy : rho s y = some a) (hfl : a.flat = true)
    (hT : ∀ w, (sizeOf T).run P w = .ok a.cs.length w) (hle : off + a.cs.length ≤ cells.length) : Does P ((execOp ev o).run P W) fun u W' => u = undef ∧ St c env (V.set k (.blk n (cells.take off ++ a.cs ++ cells.drop (off + a.cs.length)) T')) W' O R := by
  obtain ⟨b, h1, h2, h3⟩ := hst.holds _ (List.mem_of_getElem? hk);have hx' := hev _ _ hx;have hy' := hev _ _ hy;simp only [AV.den, h1, blockOff] at hx';have hcl : (a.den env).cells = (AV.denL env a.cs).toArray := AV.den_cells hfl env;have hcs : (a.den env).cells.size = a.cs.length := by rw [hcl]; simp [denL_length]
  have hst' := run_storeCells_at P b off T' (AV.denL env a.cs) 0 (AV.denL env cells).toArray W h3 (by simp [denL_length]; omega) (denL_one (cs_all_one hfl));have hcur : ((AV.denL env cells).toArray.toList.take (off + 0) ++ AV.denL env a.cs ++ (AV.denL env cells).toArray.toList.drop (off + 0 + (AV.denL env a.cs).length)) = AV.denL env (cells.take off ++ a.cs ++ cells.drop (off + a.cs.length)) := by
    simp [denL_append, denL_take, denL_drop, denL_length]
  rw [hcur] at hst';have hrun : (execOp ev o).run P W = .ok .skip (W.setRow b (AV.denL env (cells.take off ++ a.cs ++ cells.drop (off + a.cs.length))).toArray) := by
    simp only [execOp, ho, Instr.storeAt, hx', hy', Instr.sureAddr, storeVar, Sem.run_bind, Sem.run_pure, Result.andThen_ok, hT, hcs, ne_eq, not_true, if_false];rw [show (a.den env).cells.toList = AV.denL env a.cs by rw [hcl]];simp only [hst', Result.andThen_ok, Sem.run_pure]
  rw [hrun];refine ⟨rfl, hst.write k hk (keep_setRow W b _ _ h2) rfl ⟨b, h1, h2, ?_⟩⟩;exact setRow_heap W b _ _ T' (0, 0) h3
theorem TL.storeB (k : Nat) {T n off : Nat} {x y : Operand} {cells : List AV} {T' : TypeId} {a : AV} (ho : o.op = .store T x y) (hd : o.dst = none) (hw : Wanted ops s o) (hx : rho s x = some (.ptr n off)) (hk : V[k]? = some (.blk n cells T')) (hy : rho s y = some a) (hfl : a.flat = true)
    (hT : ∀ w, (sizeOf T).run P w = .ok a.cs.length w) (hle : off + a.cs.length ≤ cells.length) (h : TL P c sz Q ops rest t s (V.set k (.blk n (cells.take off ++ a.cs ++ cells.drop (off + a.cs.length)) T'))) : TL P c sz Q ops (o :: rest) t s V := by
  intro env tm W O R hfr hst;unfold wpListIn;rw [if_pos (wanted_of hfr hw)];refine ((coreB (ev := Act.eval ⟨tm, sz.df⟩) (fun x a hx => rho_eval hfr hx) hst k ho hx hk hy hfl hT hle).inn fun v W' ⟨_, hst'⟩ => ?_)
  show wpListIn _ _ P ops _ rest _ _;rw [hd];exact h env tm W' O R hfr hst'
theorem els_set_get {size i : Nat} {els : List (List D)} {el' : List D} (hs : ∀ x ∈ els, x.length = size) (hel : el'.length = size) (hi : i < els.length) (h0 : 0 < size) (q : Nat) (d : D) (hq : (els.set i el').flatten[q]? = some d) :
    (∃ j, q = i * size + j ∧ j < size ∧ el'[j]? = some d) ∨ ((∀ j, j < size → q ≠ i * size + j) ∧ els.flatten[q]? = some d) := by
  have hs' : ∀ x ∈ els.set i el', x.length = size := fun x hx => by
    rcases List.mem_or_eq_of_mem_set hx with h | h
    · exact hs x h
    · rw [h]; exact hel
  have hlen : ∀ l : List (List D), (∀ x ∈ l, x.length = size) → l.flatten.length = l.length * size := by
    intro l
    induction l with
    | nil => simp
    | cons x l ih => intro hx; simp [hx x (by simp), ih (fun y hy => hx y (by simp [hy])), Nat.add_mul]; omega
  have hqlt : q < els.length * size := by
    have := (List.getElem?_eq_some_iff.1 hq).1;rw [hlen _ hs'] at this; simpa using this
  have hdm := Nat.div_add_mod q size;have hml := Nat.mod_lt q h0;have hql : q / size < els.length := by
    rw [Nat.div_lt_iff_lt_mul h0]; exact hqlt
  have hqe : q = q / size * size + q % size := by rw [Nat.mul_comm]; omega
  by_cases e : q / size = i
  · left
    refine ⟨q % size, by rw [← e]; exact hqe, hml, ?_⟩;rw [hqe, flatten_get (els.set i el') (q / size) (q % size) el' hs' (by rw [e, List.getElem?_set_self hi]) hml] at hq;exact hq
  · right
    refine ⟨fun j hj hc => e ?_, ?_⟩
    · rw [hc, Nat.mul_comm, Nat.mul_add_div h0, Nat.div_eq_of_lt hj, Nat.add_zero]
    · have hget : els[q / size]? = some els[q / size] := by simp
      rw [hqe, flatten_get (els.set i el') (q / size) (q % size) els[q / size] hs' (by rw [List.getElem?_set_ne (Ne.symm e)]; exact hget) hml] at hq;rw [hqe, flatten_get els (q / size) (q % size) els[q / size] hs hget hml];exact hq
theorem coreR {ρ : Operand → Option AV} {ev : Operand → Value} {env : Env} {W : World} {O : Nat → Nat → Prop} {R : Nat → Prop} (hev : ∀ x a, ρ x = some a → ev x = a.den env) (hst : St c env V W O R) (k : Nat) {T n kk i j size E : Nat} {x y : Operand} {els : List (List D)} {el ds : List D} {a : AV} {need : List NEnt} (ho : o.op = .store T x y) (hx : ρ x = some (.cell n kk)) (hk : V[k]? = some (.row n E size els))
    (hy : ρ y = some a) (hfl : a.flat = true) (hT : ∀ w, (sizeOf T).run P w = .ok a.cs.length w) (hkk : kk = i * size + j) (hi : els[i]? = some el) (hle : j + a.cs.length ≤ size) (hpos : 0 < size) (hneed : ∀ x ∈ need, x ∈ V) (had : ADL need a.cs ds) :
    Does P ((execOp ev o).run P W) fun u W' => u = undef ∧ St c env (V.set k (.row n E size (els.set i (el.take j ++ ds ++ el.drop (j + ds.length))))) W' O R := by
  have hxm : NEnt.row n E size els ∈ V := List.mem_of_getElem? hk;obtain ⟨hs, cells, hown, hob, hcd⟩ := hst.holds _ hxm;obtain ⟨hadl, hadk⟩ := had.ok (O := O) (R := R) (W := W) (env := env) (fun x hx => hst.holds x (hneed x hx));have hilt : i < els.length := (List.getElem?_eq_some_iff.1 hi).1;have hel : el.length = size := hs el (List.mem_of_getElem? hi);rcases hown.2 with ⟨hv, hn0⟩ | ⟨g, cap, cur, hv, _, hg, hnc, hcm, hcs, htk⟩
  · omega
  have hOg : O n g := hob g (by rw [hv]; rfl);have hcl : (a.den env).cells = (AV.denL env a.cs).toArray := AV.den_cells hfl env;have hcz : (a.den env).cells.size = a.cs.length := by rw [hcl]; simp [denL_length]
  have hbound : kk + a.cs.length ≤ els.length * size := by
    have : (i + 1) * size ≤ els.length * size := Nat.mul_le_mul_right _ hilt;rw [Nat.add_mul] at this; omega
  have hcap : els.length * size ≤ cap * size := Nat.mul_le_mul_right _ hnc;have hone := denL_one (e := env) (cs_all_one hfl);have hst' := run_storeCells_at P g kk E (AV.denL env a.cs) 0 cur W hg (by rw [denL_length]; omega) hone;have hx' := hev _ _ hx;have hy' := hev _ _ hy;simp only [AV.den, cellAt_eq hv, Nat.zero_add] at hx';have hrun : (execOp ev o).run P W = .ok .skip (W.setRow g (cur.toList.take (kk + 0) ++ AV.denL env a.cs ++ cur.toList.drop (kk + 0 + (AV.denL env a.cs).length)).toArray) := by
    simp only [execOp, ho, Instr.storeAt, hx', hy', Instr.sureAddr, storeVar, Sem.run_bind, Sem.run_pure, Result.andThen_ok, hT, hcz, ne_eq, not_true, if_false];rw [show (a.den env).cells.toList = AV.denL env a.cs by rw [hcl]];simp only [hst', Result.andThen_ok, Sem.run_pure]
  rw [hrun];have hel' : (el.take j ++ ds ++ el.drop (j + ds.length)).length = size := by
    simp only [List.length_append, List.length_take, List.length_drop]; omega
  refine ⟨rfl, hst.write k hk (keep_setRow W g _ _ hOg) rfl ?_⟩;refine ⟨fun e he => ?_, (cells.take kk ++ AV.denL env a.cs ++ cells.drop (kk + a.cs.length)), ⟨?_, .inr ⟨g, cap, _, by rw [hv]; simp, Nat.zero_le _, setRow_heap W g _ _ E (0, 0) hg, by simpa using hnc, hcm, ?_, ?_⟩⟩, hob, fun q d hq => ?_⟩
  · rcases List.mem_or_eq_of_mem_set he with h | h
    · exact hs e h
    · rw [h]; exact hel'
  · have := hown.1;simp only [List.length_append, List.length_take, List.length_drop, denL_length, List.length_set]; omega
  · simp only [List.size_toArray, List.length_append, List.length_take, List.length_drop, denL_length, Array.length_toList]; omega
  · have hcl2 : cells.length = els.length * size := hown.1;rw [← htk];simp only [Nat.add_zero, denL_length, List.length_set];have hts := take_splice cur.toList (els.length * size) kk (AV.denL env a.cs) (by rw [denL_length]; omega) (by have := Array.length_toList (xs := cur); omega);rw [denL_length] at hts;exact hts
  · rcases els_set_get hs hel' hilt hpos q d hq with ⟨j', rfl, hj', hd'⟩ | ⟨hno, hd'⟩
    · -- inside the element
      rcases Nat.lt_or_ge j' j with hlt | hge
      · rw [List.append_assoc, List.getElem?_append_left (by simp; omega), List.getElem?_take_of_lt hlt] at hd';have hf := flatten_get els i j' el hs hi hj';obtain ⟨u, hu, hok, h1⟩ := hcd (i * size + j') d (by rw [hf]; exact hd');refine ⟨u, ?_, d.mono W _ R R (fun b hb => ⟨hb, setRow_other W g b _ (fun e => ?_)⟩) u hok, h1⟩
        · rw [List.append_assoc, List.getElem?_append_left (by simp [hown.1]; omega), List.getElem?_take_of_lt (by omega)]; exact hu
        · subst e; exact (hst.own _ hxm b hOg).2.2 hb
      · rcases Nat.lt_or_ge j' (j + ds.length) with hlt2 | hge2
        · rw [List.append_assoc, List.getElem?_append_right (by simp; omega), List.getElem?_append_left (by simp; omega)] at hd';have e1 : j' - (el.take j).length = j' - j := by simp; omega
          rw [e1] at hd';obtain ⟨u, hu, hok⟩ := hadk (j' - j) d hd';refine ⟨u, ?_, d.mono W _ R R (fun b hb => ⟨hb, setRow_other W g b _ (fun e => ?_)⟩) u hok, hone u (List.mem_of_getElem? hu)⟩
          · rw [List.append_assoc, List.getElem?_append_right (by simp; omega), List.getElem?_append_left (by simp [denL_length, hown.1]; omega)];have e2 : i * size + j' - (cells.take kk).length = j' - j := by simp [hown.1]; omega
            rw [e2]; exact hu
          · subst e; exact (hst.own _ hxm b hOg).2.2 hb
        · rw [List.getElem?_append_right (by simp; omega), List.getElem?_drop] at hd';have e1 : j + ds.length + (j' - (el.take j ++ ds).length) = j' := by simp; omega
          rw [e1] at hd';have hf := flatten_get els i j' el hs hi hj';obtain ⟨u, hu, hok, h1⟩ := hcd (i * size + j') d (by rw [hf]; exact hd');refine ⟨u, ?_, d.mono W _ R R (fun b hb => ⟨hb, setRow_other W g b _ (fun e => ?_)⟩) u hok, h1⟩
          · rw [List.getElem?_append_right (by simp [denL_length, hown.1]; omega), List.getElem?_drop];have e2 : kk + a.cs.length + (i * size + j' - (cells.take kk ++ AV.denL env a.cs).length) = i * size + j' := by simp [denL_length, hown.1]; omega
            rw [e2]; exact hu
          · subst e; exact (hst.own _ hxm b hOg).2.2 hb
    · obtain ⟨u, hu, hok, h1⟩ := hcd q d hd';have hqlt : q < cells.length := (List.getElem?_eq_some_iff.1 hu).1;refine ⟨u, ?_, d.mono W _ R R (fun b hb => ⟨hb, setRow_other W g b _ (fun e => ?_)⟩) u hok, h1⟩
      · rcases Nat.lt_or_ge q kk with hlt | hge
        · rw [List.append_assoc, List.getElem?_append_left (by simp [hown.1]; omega), List.getElem?_take_of_lt hlt]; exact hu
        · have : kk + a.cs.length ≤ q := by
            rcases Nat.lt_or_ge q (kk + a.cs.length) with hlt | h
            · exact absurd (show q = i * size + (q - i * size) by omega) (hno (q - i * size) (by omega))
            · exact h
          rw [List.getElem?_append_right (by simp [denL_length, hown.1]; omega), List.getElem?_drop];have e2 : kk + a.cs.length + (q - (cells.take kk ++ AV.denL env a.cs).length) = q := by simp [denL_length, hown.1]; omega
          rw [e2]; exact hu
      · subst e; exact (hst.own _ hxm b hOg).2.2 hb
end
end Go.Proofs.Ythgbjhglhejalaa.Sy
end
section
set_option linter.unusedSimpArgs false
set_option linter.unusedVariables false
namespace Go.Proofs.Ythgbjhglhejalaa.Sy
open Go.RowKit
def room (bytes n : Nat) : Bool := decide (n * bytes ≤ 140737488355328) && decide (n ≤ 140737488355327)
theorem flatten_len {α : Type} {size : Nat} : ∀ l : List (List α), (∀ x ∈ l, x.length = size) → l.flatten.length = l.length * size := by
  intro l
  induction l with
  | nil => simp
  | cons x l ih => intro hx; simp [hx x (by simp), ih (fun y hy => hx y (by simp [hy])), Nat.add_mul]; omega
theorem row_cells {x : NEnt} {n size : Nat} {els : List (List D)} {env : Env} {W : World} {O R : Nat → Prop} (hx : IsRow x n size els) (hpos : 0 < size) (h : x.holds env W O R) :
    ∃ a cap, env n = .slice a els.length cap ∧ (a = none → els = []) ∧ (∀ el ∈ els, el.length = size) ∧ ∃ us : List Value, us.length = els.length * size ∧ (∀ u ∈ us, u.oneCell' = true) ∧
      (∀ ad, a = some ad → ∀ j u, us[j]? = some u → W.cell? (ad.add j) = some u) ∧ ∀ (q : Nat) (d : D), els.flatten[q]? = some d → ∃ u : Value, us[q]? = some u ∧ d.ok W R u := by
  obtain ⟨a, cap, h1, h2, h3, h4, h5⟩ := row_read hx h;have hs : ∀ el ∈ els, el.length = size := fun el he => by
    obtain ⟨i, hi⟩ := List.mem_iff_getElem?.1 he;exact (h5 i el hi).1
  refine ⟨a, cap, h1, fun e => List.eq_nil_of_length_eq_zero (by have := h4 e; omega), hs, ?_⟩;have key : ∀ q, q < els.length * size → ∃ u : Value, u.oneCell' = true ∧ (∀ ad, a = some ad → W.cell? (ad.add q) = some u) ∧ ∀ d : D, els.flatten[q]? = some d → d.ok W R u := by
    intro q hq;have hml := Nat.mod_lt q hpos;have hql : q / size < els.length := by rw [Nat.div_lt_iff_lt_mul hpos]; exact hq
    have hqe : q = q / size * size + q % size := by have := Nat.div_add_mod q size; rw [Nat.mul_comm]; omega
    have hget : els[q / size]? = some els[q / size] := by simp
    have hel := hs _ (List.getElem_mem hql);have hd : els[q / size][q % size]? = some (els[q / size][q % size]'(by omega)) := by simp
    obtain ⟨b, o, ha, _, u, hu, hok, h1c⟩ := (h5 _ _ hget).2 _ _ hd;refine ⟨u, h1c, fun ad had => ?_, fun d hd' => ?_⟩
    · rw [ha] at had; cases had; rw [add_lit, hqe];have : q / size * size + q % size = q := hqe.symm;rw [← hqe]; rw [this] at hu; exact hu
    · rw [hqe, flatten_get els _ _ _ hs hget hml, hd] at hd';cases hd'; exact hok
  obtain ⟨us, hul, hus⟩ : ∃ us : List Value, us.length = els.length * size ∧ ∀ (q : Nat) (u : Value), us[q]? = some u → u.oneCell' = true ∧ (∀ ad, a = some ad → W.cell? (ad.add q) = some u) ∧ ∀ d : D, els.flatten[q]? = some d → d.ok W R u := by
    generalize els.length * size = N at key
    induction N with
    | zero => exact ⟨[], rfl, by simp⟩
    | succ N ih =>
      obtain ⟨us, e1, e2⟩ := ih (fun q hq => key q (by omega));obtain ⟨u, hu⟩ := key N (by omega);refine ⟨us ++ [u], by simp [e1], fun q v hq => ?_⟩;rcases Nat.lt_or_ge q us.length with hlt | hge
      · rw [List.getElem?_append_left hlt] at hq; exact e2 q v hq
      · have : q = N := by
          have := (List.getElem?_eq_some_iff.1 hq).1;simp at this; omega
        subst this;rw [List.getElem?_append_right hge] at hq;simp [e1] at hq; subst hq; exact hu
  refine ⟨us, hul, fun u hu => ?_, fun ad had j u hj => (hus j u hj).2.1 ad had, fun q d hq => ?_⟩
  · obtain ⟨j, hj⟩ := List.mem_iff_getElem?.1 hu; exact (hus j u hj).1
  · have hlt : q < us.length := by
      have := (List.getElem?_eq_some_iff.1 hq).1;rw [flatten_len _ hs] at this; omega
    exact ⟨us[q], by simp, (hus q us[q] (by simp)).2.2 d hq⟩
section
variable {P : Program} {c : Ctx} {sz : Fm} {Q : Exit → Act → World → Prop} {t : List Item} {s : List (Nat × AV)} {V : List NEnt} {ops : Array Oper} {rest : List Oper} {o : Oper}
theorem grown_keep {W W' : World} {v : Value} {N : Nat → Prop} (h : W.grownBy W' v.ownBlock) (hN : ∀ b, v.ownBlock = some b → N b) : Keep N W W' :=
  ⟨h.os, h.tape, h.output, h.size, fun k hk hn => h.block k hk (fun e => hn (hN k e.symm))⟩
theorem TL.append (k : Nat) {T E size bytes n m d : Nat} (r : Nat) {x y : Operand} {els els2 : List (List D)} {ym : NEnt} (ho : o.op = .call { callee := .builtin .append, args := #[x, y], argTypes := #[T, T] }) (hd : o.dst = some d) (hw : Wanted ops s o) (hlt : d < sz.sz)
    (hx : rho s x = some (.ref n)) (hk : V[k]? = some (.row n E size els)) (hy : rho s y = some (.ref m)) (hm : ym ∈ V) (hym : IsRow ym m size els2) (hnm : m ≠ n) (hT : SlT P T E size bytes) (hroom : room bytes (els.length + els2.length) = true)
    (hf : freshN [.row r E size (els ++ els2)] s V = true) (h : TL P c sz Q ops rest t ((d, .ref r) :: s) (.row r E size (els ++ els2) :: V.eraseIdx k)) : TL P c sz Q ops (o :: rest) t s V := by
  intro env tm W O R hfr hst;have hf' : hasS r s = false ∧ hasV r V = false := by simpa [freshN, NEnt.name] using hf
  simp only [room, Bool.and_eq_true, decide_eq_true_eq] at hroom;have hxm : NEnt.row n E size els ∈ V := List.mem_of_getElem? hk;obtain ⟨hs, cells, hown, hob, hcd⟩ := hst.holds _ hxm;obtain ⟨a, cap, hv2, hnone, hs2, us, hul, hone, hcell, hok⟩ := row_cells hym hT.pos (hst.holds _ hm);obtain ⟨i, z, hi, hz, hsz, hby, hzs⟩ := hT.info;have hvx : oneOf (env n) = env n := by
    rcases hown.2 with ⟨hv, _⟩ | ⟨g, cap, cur, hv, _⟩ <;> rw [hv] <;> rfl
  have hx' := rho_eval (df := sz.df) hfr hx;have hy' := rho_eval (df := sz.df) hfr hy;simp only [AV.den, hvx] at hx';simp only [AV.den, hv2, oneOf] at hy'
  -- what the run comes to
  have hrun : ∃ v' W', (Builtin.append_ #[T, T] o.type #[env n, .slice a els2.length cap]).run P W = .ok v' W' ∧ W'.ownsRow 0 E size v' (els.length + els2.length) (cells ++ us) ∧ W.grownBy W' (env n).ownBlock ∧
      ∀ b, v'.ownBlock = some b → (env n).ownBlock = some b ∨ W.heap.size ≤ b := by
    cases a with
    | none =>
      have he2 := hnone rfl;subst he2;have hus : us = [] := List.eq_nil_of_length_eq_zero (by simpa using hul);subst hus;obtain ⟨_, _, h2, _, _, h4, _⟩ := row_read hym (hst.holds _ hm);have hc0 : cap = 0 := by
        rw [hv2] at h2; cases h2; exact h4 rfl
      subst hc0;refine ⟨env n, W, run_append_owned_none (w := W) 0 T o.type E i size hT.under hi _ _ _ hown, by simpa using hown, ⟨rfl, rfl, rfl, Nat.le_refl _, fun _ _ _ => rfl⟩, fun b hb => .inl hb⟩
    | some ad =>
      obtain ⟨v', W', h1, h2, h3, _⟩ := run_append_own W 0 T o.type E i z size bytes hT.under hi hz hsz hby hzs hT.pos (env n) els.length cells hown ad els2.length cap us hul (hcell ad rfl) hone (by simp only [maxLen]; omega) hroom.1 (Nat.zero_le _);refine ⟨v', W', h1, h2, h3, fun b hb => ?_⟩;subst hsz; subst hby
      have h63 : (els.length + els2.length : Nat) ≤ 9223372036854775807 := by omega
      rcases hown.2 with ⟨hv, hn0⟩ | ⟨g, cap2, cur, hv, _, hg, hnc, hcm, hcs, htk⟩
      · rw [hv] at h1
        by_cases h0 : els2.length = 0
        · have hus : us = [] := List.eq_nil_of_length_eq_zero (by simpa [h0] using hul);have hl0 : els.length = 0 := hn0;have : (Builtin.append_ #[T, T] o.type #[.slice none 0 0, .slice (some ad) els2.length cap]).run P W = .ok (.slice none 0 0) W := by
            rw [h0];simp [Builtin.append_, run_underlying hT.under, sizeOf, typeInfo, hi, Builtin.lenOf, Builtin.firstCells, loadCells, loadCellsFrom]
          rw [this] at h1;cases h1;simp [Value.ownBlock] at hb
        · have hr := run_append_nil (P := P) W T o.type E i z hT.under hi hz ad els2.length cap us hul (hcell ad rfl) (by omega) (by omega) (by have := hroom.1; rw [Nat.add_mul] at this; omega);rw [hr] at h1;cases h1;simp [Value.ownBlock] at hb;exact .inr (by omega)
      · rw [hv] at h1 ⊢
        by_cases hroom2 : els.length + els2.length ≤ cap2
        · have hfit : els.length * i.size + us.length ≤ cur.size := by rw [hul, hcs, ← Nat.add_mul]; exact Nat.mul_le_mul_right _ hroom2
          have hr := run_append_room (P := P) W T o.type E i hT.under hi g els.length cap2 cur hg ad els2.length cap us hul (hcell ad rfl) hone hroom2 hfit;rw [hr] at h1;cases h1;exact .inl hb
        · have holds : ∀ j u, cells[j]? = some u → W.cell? ((⟨g, 0, none⟩ : Addr).add j) = some u := World.ownsRow.cells hown (g := g) (by rw [hv]; rfl);have hr := run_append_grow (P := P) W T o.type E i z hT.under hi hz ⟨g, 0, none⟩ els.length cap2 cells hown.1 holds ad els2.length cap us hul (hcell ad rfl) (by omega) (by omega) (growslice_fits (by omega) hroom.1);rw [hr] at h1;cases h1;simp [Value.ownBlock] at hb;exact .inr (by omega)
  obtain ⟨v', W', hrun, hown', hgrow, hblk⟩ := hrun;unfold wpListIn;rw [if_pos (wanted_of hfr hw)];have hexec : (execOp (Act.eval ⟨tm, sz.df⟩) o).run P W = .ok (.value v') W' := by
    simp only [execOp, ho, resolve, invoke, builtin, Sem.run_bind, Sem.run_pure, Result.andThen_ok, List.map_toArray, List.map_cons, List.map_nil, hx', hy', hrun]
  refine Does.inn (K := fun u W2 => u = v' ∧ W2 = W') (by rw [hexec]; exact ⟨rfl, rfl⟩) ?_
  rintro u2 W2 ⟨hu2, hW2⟩
  rw [hu2, hW2, hd];have hkeep : Keep (fun b => O n b) W W' := grown_keep hgrow hob;have hOn : ∀ b, (env n).ownBlock = some b → b < W.heap.size := fun b hb => (hst.own _ hxm b (hob b hb)).1
  have hvb : ∀ b, v'.ownBlock = some b → (O n b ∨ W.heap.size ≤ b) ∧ b < W'.heap.size := by
    intro b hb;exact ⟨(hblk b hb).imp (hob b) id, (hown'.lt b hb).2⟩
  obtain ⟨O', hst'⟩ := hst.replace (y := .row r E size (els ++ els2)) (v := v') (Or := fun b => v'.ownBlock = some b) k hk hkeep hvb hf'.2 (by
    simp only [NEnt.name, NEnt.holds, setEnv_same];refine ⟨fun el he => (List.mem_append.1 he).elim (hs el) (hs2 el), cells ++ us, by simpa using hown', fun b hb => hb, fun q d hq => ?_⟩;have hRk : ∀ b, R b → R b ∧ W'.heap[b]? = W.heap[b]? := fun b hb => ⟨hb, hkeep.block b (hst.ro b hb).1 (fun ho => (hst.own _ hxm b ho).2.2 hb)⟩
    have hfl := flatten_len els hs;have hcl : cells.length = els.length * size := hown.1;rw [List.flatten_append] at hq;rcases Nat.lt_or_ge q els.flatten.length with hlt | hge
    · rw [List.getElem?_append_left hlt] at hq;obtain ⟨u, hu, hok', h1⟩ := hcd q d hq;exact ⟨u, by rw [List.getElem?_append_left (by omega)]; exact hu, d.mono W W' R R hRk u hok', h1⟩
    · rw [List.getElem?_append_right hge] at hq;obtain ⟨u, hu, hok'⟩ := hok _ d hq;exact ⟨u, by rw [List.getElem?_append_right (by omega), hcl, ← hfl]; exact hu, d.mono W W' R R hRk u hok', hone u (List.mem_of_getElem? hu)⟩)
  have hfr' : Fr (setEnv env r v') sz.sz s tm := hfr.congr fun k hk => (setEnv_other (n := r) (m := k) fun e => by subst e; rw [hf'.1] at hk; cases hk).symm
  have hone' : oneOf v' = v' := by
    rcases hown'.2 with ⟨hv, _⟩ | ⟨g, cap, cur, hv, _⟩ <;> rw [hv] <;> rfl
  have := h _ _ W' O' R ((hfr'.put hlt (a := .ref r))) hst';simp only [AV.den, setEnv_same, hone'] at this;exact this
end
end Go.Proofs.Ythgbjhglhejalaa.Sy
end
section
set_option linter.unusedSimpArgs false
set_option linter.unusedVariables false
namespace Go.Proofs.Ythgbjhglhejalaa.Sy
open Go.RowKit
section
variable {P : Program} {o : Oper} {ρ : Operand → Option AV}
def Cut (ρ : Operand → Option AV) (x : Option Operand) (dflt z : Int) : Prop := match x with
  | none => z = dflt
  | some x => ∃ k, ρ x = some (.val (.int k z))
theorem cut_none {z : Int} : Cut ρ none z z := rfl
theorem cut_some {x : Operand} {d z : Int} {k : IntKind} (h : ρ x = some (.val (.int k z))) : Cut ρ (some x) d z := ⟨k, h⟩
theorem sp_slice {T E : TypeId} {size bytes n : Nat} (m : Nat) {x : Operand} {lo hi : Option Operand} {l h : Int} {els els' : List (List D)} (ho : o.op = .slice T x lo hi none) (hx : ρ x = some (.ref n)) (hT : SlT P T E size bytes)
    (hlo : Cut ρ lo 0 l) (hhi : Cut ρ hi els.length h) (hb : (decide (0 ≤ l) && (decide (l ≤ h) && decide (h ≤ els.length))) = true) (he : (els.take h.toNat).drop l.toNat = els') :
    OpSpec P o ρ [.ro n size els] (.ref m) [.ro m size els'] := by
  intro ev env W O R hev hn _ hR;simp only [Bool.and_eq_true, decide_eq_true_eq] at hb;obtain ⟨hb1, hb2, hb3⟩ := hb;obtain ⟨h, rfl⟩ : ∃ h' : Nat, h = h' := ⟨h.toNat, by omega⟩;obtain ⟨l, rfl⟩ : ∃ l' : Nat, l = l' := ⟨l.toNat, by omega⟩;simp only [Int.toNat_natCast] at he;have hro : reads size els W R (env n) := hn _ (List.mem_singleton.2 rfl);obtain ⟨a, cap, h1, h2, h3, h4, h5⟩ := hro;obtain ⟨ti, z, hti, _, hts, _, _⟩ := hT.info;have hx' := hev x _ hx;simp only [AV.den, h1, oneOf] at hx';have hhc : h ≤ cap := by omega
  have hrun : (execOp ev o).run P W = .ok (.value (.slice (if cap = l then a else a.map (·.add (l * size))) (h - l) (cap - l))) W := by
    have hsb : ∀ (w : World), (Instr.sliceBounds true els.length cap (lo.map ev) (hi.map ev) none).run P w = .ok (l, h, cap) w := by
      intro w
      have hh : (match hi.map ev, (none : Option Value) with
          | some v, some _ => Instr.sliceBound v cap .slice3B
          | some v, none => Instr.sliceBound v cap .sliceAcap
          | none, none => pure els.length
          | none, some _ => stuck "Slice: max without high").run P w = .ok h w := by
        cases hi with
        | none => simp only [Cut] at hhi; simp; omega
        | some y => obtain ⟨k, hk⟩ := hhi; simp [hev y _ hk, AV.den, Instr.sliceBound, asIntOf, hhc]
      have hl : (match lo.map ev with
          | some v => Instr.sliceBound v h .sliceB
          | none => pure 0).run P w = .ok l w := by
        cases lo with
        | none => simp only [Cut] at hlo; simp; omega
        | some y => obtain ⟨k, hk⟩ := hlo; simp [hev y _ hk, AV.den, Instr.sliceBound, asIntOf, show l ≤ h by omega]
      cases hi <;> cases lo <;> simp [Instr.sliceBounds] at hh hl ⊢ <;> simp [hh, hl]
    simp only [execOp, ho, Instr.sliceAt, Instr.slice, Sem.run_bind, run_underlying hT.under, Result.andThen_ok, hx', Option.map_none, hsb, sizeOf, typeInfo, run_program, hti, hts, Sem.run_pure]
  rw [hrun];refine ⟨setEnv env m (.slice (if cap = l then a else a.map (·.add (l * size))) (h - l) (cap - l)), fun _ _ => False, R, fun k hk => setEnv_other (hk (.ro m size els') (by simp)), by simp [AV.den, setEnv_same, oneOf], ?_⟩;refine St.fresh (Keep.refl _ W) hR ?_ (fun b hb => hb.elim);simp only [NEnt.holds, setEnv_same];have hlen : els'.length = h - l := by subst he; simp; omega
  refine ⟨_, cap - l, by rw [hlen], by omega, by omega, fun hnone => ?_, fun i el hi' => ?_⟩
  · split at hnone
    · omega
    · cases a with
      | none => have := h4 rfl; omega
      | some a => simp at hnone
  · subst he;have hget : els[l + i]? = some el := by
      rw [List.getElem?_drop, List.getElem?_take] at hi'
      split at hi'
      · exact hi'
      · cases hi'
    refine ⟨(h5 _ _ hget).1, fun j d hj => ?_⟩;obtain ⟨b, o', ha, hb', u, hu, hok⟩ := (h5 _ _ hget).2 j d hj;subst ha;have hilt : i < h - l := by
      have := (List.getElem?_eq_some_iff.1 hi').1; simp at this; omega
    rw [if_neg (by omega)];refine ⟨b, o' + l * size, by simp [add_lit], hb', u, ?_, hok⟩;rw [show o' + l * size + (i * size + j) = o' + ((l + i) * size + j) by rw [Nat.add_mul]; omega];exact hu
def Post (c : Ctx) (env : Env) (v : AV) (news : List NEnt) (e : Ending) (W' : World) : Prop := ∃ u, e = .returned u ∧ Got c env v news u W'
def FC (P : Program) (f : Nat) (args : List AV) (need : List NEnt) (v : AV) (news : List NEnt) : Prop :=
  ∀ (env : Env) (w0 : World) (R0 : Nat → Prop), (∀ x ∈ need, x.holds env w0 (fun _ => False) R0) → (∀ b, R0 b → b < w0.heap.size) →
    Calls P f (AV.denL env args).toArray w0 (Post ⟨w0, fun _ => False, R0⟩ env v news)
def NEnt.indep (x : NEnt) : Prop := ∀ env W O R, x.holds env W O R → x.holds env W O (fun _ => False)
theorem indep_row {n E size : Nat} {els : List (List D)} (h : ∀ el ∈ els, ∀ d ∈ el, ∃ x, d = D.v x) : (NEnt.row n E size els).indep := by
  intro env W O R ⟨h1, cells, h2, h3, h4⟩;refine ⟨h1, cells, h2, h3, fun k d hk => ?_⟩;obtain ⟨u, hu, hok, hone⟩ := h4 k d hk;obtain ⟨el, hel, hd⟩ := List.mem_flatten.1 (List.mem_of_getElem? hk);obtain ⟨x, rfl⟩ := h el hel d hd;exact ⟨u, hu, hok, hone⟩
theorem indep_map {α : Type} {n E size : Nat} {xs : List α} {enc : α → List D} (h : ∀ a, ∀ d ∈ enc a, ∃ x, d = D.v x) : (NEnt.row n E size (xs.map enc)).indep :=
  indep_row fun el hel => by
    obtain ⟨a, _, rfl⟩ := List.mem_map.1 hel;exact h a
theorem args_map {ev : Operand → Value} {env : Env} (he : ∀ x a, ρ x = some a → ev x = a.den env) : ∀ (l : List Operand) (m : List AV), l.map ρ = m.map some → l.map ev = AV.denL env m := by
  intro l
  induction l with
  | nil => intro m h; cases m <;> first | rfl | cases h
  | cons x l ih =>
    intro m h
    cases m with
    | nil => cases h
    | cons b m =>
      simp only [List.map_cons, List.cons.injEq] at h;simp only [List.map_cons, AV.denL, he x b h.1, ih m h.2]
theorem sp_call {fo : Operand} {as_ : List Operand} {avs fi ca : List AV} {ats : Array TypeId} {f : Nat} {need news : List NEnt} {v : AV} (ho : o.op = .call { callee := .value fo, args := as_.toArray, argTypes := ats }) (hf : ρ fo = some (.fn f fi ca)) (has : as_.map ρ = avs.map some)
    (hc : ∀ args w, (callFunc f args).run P w = .ok (.enter f args) w) (hfc : FC P f (fi ++ avs ++ ca) (need.map NEnt.toRo) v news) (hb : (∀ x ∈ need, x.toRo = x) ∨ (∀ x ∈ news, x.indep)) : OpSpec P o ρ need v news := by
  intro ev env W O R hev hn hO hR;have hfo := hev fo _ hf;simp only [AV.den] at hfo;have hargs := args_map hev as_ avs has;have hrun : (execOp ev o).run P W = .ok (.enter f (AV.denL env (fi ++ avs ++ ca)).toArray) W := by
    simp only [execOp, ho, resolve, hfo, Deferred.ofValue, Sem.run_bind, Sem.run_pure, Result.andThen_ok, invoke, hc, List.map_toArray, hargs, denL_append, List.append_toArray]
  rw [hrun];rcases hb with hb | hb
  · refine (hfc env W R (fun x hx => ?_) hR).mono fun e W' ⟨u, he, hg⟩ => ⟨u, he, hg⟩
    obtain ⟨y, hy, rfl⟩ := List.mem_map.1 hx;exact NEnt.toRo_holds (x := y.toRo) (O := fun _ => False) (R := R) (fun b hb => hb.elim) (fun b hb => hb) (by
      have h1 := hn y hy;rw [hb y hy]
      cases y with
      | row n E size els => have := hb _ hy; simp [NEnt.toRo] at this
      | blk n cells T => have := hb _ hy; simp [NEnt.toRo] at this
      | ro n size els => exact h1
      | rob n cells T => exact h1
      | any n d => exact h1
      | inv n I => have := hb _ hy; simp [NEnt.toRo] at this
      | pin g n u => exact h1) _ |> fun h => by
        have e : y.toRo.toRo = y.toRo := by cases y <;> rfl
        rw [e] at h; exact h
  · refine (hfc env W (fun b => R b ∨ ∃ x ∈ need, O x.name b) (fun x hx => ?_) (fun b hb => hb.elim (hR b) (fun ⟨x, hx, h⟩ => hO x hx b h))).mono fun e W' ⟨u, he, env', O', R', h1, h2, hst⟩ => ⟨u, he, env', O', fun b => R b ∨ (R' b ∧ W.heap.size ≤ b), h1, h2, ?_⟩
    · obtain ⟨y, hy, rfl⟩ := List.mem_map.1 hx;exact NEnt.toRo_holds (O := O y.name) (R := R) (fun b hb => .inr ⟨y, hy, hb⟩) (fun b hb => .inl hb) (hn y hy) _
    · refine ⟨hst.keep, fun x hx => ?_, fun x hx b hb' => ?_, hst.apart, fun b hb' => ?_, fun b hb' => .inl hb', hst.names⟩
      · exact NEnt.holds_keep (fun _ _ => rfl) (fun b hb => hb.elim) (hb x hx _ _ _ _ (hst.holds x hx))
      · obtain ⟨g1, g2, g3⟩ := hst.own x hx b hb';refine ⟨g1, g2, fun hr => hr.elim (fun hr => ?_) (fun hr => g3 hr.1)⟩;rcases g2 with g2 | g2
        · have : W.heap.size ≤ b := g2;have := hR b hr; omega
        · exact g2
      · rcases hb' with hb' | ⟨hb', hge⟩
        · exact ⟨Nat.lt_of_lt_of_le (hR b hb') hst.keep.size, .inr (.inl hb')⟩
        · exact ⟨(hst.ro b hb').1, .inl hge⟩
end
inductive ResL (P : Program) (s : List (Nat × AV)) (V : List NEnt) : List ResultVar → List AV → Prop where
  | nil : ResL P s V [] []
  | tmp {t a l m} : look s t = some a → ResL P s V l m → ResL P s V (.tmp t :: l) (a :: m)
  | cell {t T n off sz cells y a l m} : look s t = some (.ptr n off) → y ∈ V → IsBlk y n cells → VarT P T sz false → cells[off]? = some a → ResL P s V l m → ResL P s V (.cell t T :: l) (a :: m)
  | cells {t T n off sz cells as_ y l m} : look s t = some (.ptr n off) → y ∈ V → IsBlk y n cells → VarT P T sz true → (cells.drop off).take sz = as_ → as_.length = sz → ResL P s V l m → ResL P s V (.cell t T :: l) (.agg as_ :: m)
def resAV : List AV → AV
  | [a] => a
  | l => .tup l
def resOne (tm : Array Value) : ResultVar → Sem Value
  | .tmp t => Pure.pure (tm.getD t undef)
  | .cell a t => do loadVar t (← asAddr (tm.getD a undef))
theorem results_eq (fn : Func) (tm : Array Value) : results fn tm = (do let vs ← fn.results.mapM (resOne tm); Pure.pure (if h : vs.size = 1 then vs[0] else .tuple vs)) := by
  unfold results
  congr 2
theorem results_run {P : Program} {c : Ctx} {s : List (Nat × AV)} {V : List NEnt} {l : List ResultVar} {m : List AV} (h : ResL P s V l m) {env : Env} {sz : Nat} {tm : Array Value} {W : World} {O : Nat → Nat → Prop} {R : Nat → Prop} (hf : Fr env sz s tm) (hst : St c env V W O R) :
    (l.mapM (resOne tm)).run P W = .ok (AV.denL env m) W := by
  induction h with
  | nil => rfl
  | tmp h1 _ ih =>
    have := hf.2 _ _ h1;simp only [List.mapM_cons, Sem.run_bind, Result.andThen_ok, resOne, Sem.run_pure, ih];simp [this, AV.denL]
  | cell h1 hy hb hT hc _ ih =>
    have := hf.2 _ _ h1;obtain ⟨b, T', e1, e2, e3⟩ := blk_cell hb (hst.holds _ hy);have h2 : ∀ x : ResultVar, ∀ t T, x = .cell t T → True := fun _ _ _ _ => trivial
    simp only [List.mapM_cons, Sem.run_bind];simp only [resOne];simp [this, AV.denL, AV.den, e1, blockOff, asAddr, loadVar, hT.isAgg, e3 _ _ hc, ih]
  | @cells t T n off sz' cells as_ y l m h1 hy hb hT hc hl _ ih =>
    have := hf.2 _ _ h1;obtain ⟨b, T', e1, e2, e3⟩ := blk_cell hb (hst.holds _ hy);have hld := run_loadCells_list (P := P) W ⟨b, off, none⟩ (AV.denL env as_) (fun j v hj => by
      rw [add_lit];have hj' : j < sz' := by
        have := (List.getElem?_eq_some_iff.1 hj).1;rw [denL_length] at this; omega
      subst hc;rw [denL_take, denL_drop, List.getElem?_take_of_lt hj', List.getElem?_drop] at hj;rw [AV.denL_map, List.getElem?_map] at hj
      cases hcell : cells[off + j]? with
      | none => rw [hcell] at hj; cases hj
      | some a => rw [hcell] at hj; cases hj; exact e3 _ _ hcell)
    rw [denL_length, hl] at hld;simp only [List.mapM_cons, Sem.run_bind];simp only [resOne];simp [this, AV.denL, AV.den, e1, blockOff, asAddr, loadVar, hT.isAgg, hT.sizeOf, hld, ih]
mutual
def AV.ns : AV → List Nat
  | .val _ => []
  | .ref m => [m]
  | .ptr m _ => [m]
  | .cell m _ => [m]
  | .agg cs => AV.nsL cs
  | .tup cs => AV.nsL cs
  | .fn _ a b => AV.nsL a ++ AV.nsL b
def AV.nsL : List AV → List Nat
  | [] => []
  | a :: l => a.ns ++ AV.nsL l
end
mutual
theorem AV.has_ns {n : Nat} : ∀ (a : AV), a.has n = true → n ∈ a.ns
  | .val _, h => by cases h
  | .ref m, h => by simp [AV.has] at h; simp [AV.ns, h]
  | .ptr m _, h => by simp [AV.has] at h; simp [AV.ns, h]
  | .cell m _, h => by simp [AV.has] at h; simp [AV.ns, h]
  | .agg cs, h => AV.hasL_ns cs h
  | .tup cs, h => AV.hasL_ns cs h
  | .fn _ a b, h => by
    simp only [AV.has, Bool.or_eq_true] at h;exact List.mem_append.2 (h.imp (AV.hasL_ns a) (AV.hasL_ns b))
theorem AV.hasL_ns {n : Nat} : ∀ (l : List AV), AV.hasL n l = true → n ∈ AV.nsL l
  | [], h => by cases h
  | a :: l, h => by
    simp only [AV.hasL, Bool.or_eq_true] at h;exact List.mem_append.2 (h.imp (AV.has_ns a) (AV.hasL_ns l))
end
def NEnt.ns : NEnt → List Nat
  | .blk n cells _ => n :: AV.nsL cells
  | .row n _ _ _ => [n]
  | .ro n _ _ => [n]
  | .rob n cells _ => n :: AV.nsL cells
  | .any n _ => [n]
  | .inv n _ => [n]
  | .pin g n _ => [g, n]
theorem NEnt.has_ns {n : Nat} {x : NEnt} (h : x.has n = true) : n ∈ x.ns := by
  cases x <;> simp only [NEnt.has, Bool.or_eq_true, beq_iff_eq] at h <;> simp only [NEnt.ns, List.mem_cons, List.not_mem_nil, or_false]
  · exact h.imp Eq.symm (AV.hasL_ns _)
  · exact h.symm
  · exact h.symm
  · exact h.imp Eq.symm (AV.hasL_ns _)
  · exact h.symm
  · exact h.symm
  · exact h.imp Eq.symm Eq.symm
def closedN (v : AV) (news : List NEnt) : Bool := (v.ns ++ news.flatMap NEnt.ns).all fun n => (news.map NEnt.name).contains n
section
variable {P : Program} {c : Ctx} {sz : Nat} {fn : Func} {t : List Item} {s : List (Nat × AV)} {V : List NEnt}
theorem Got.mk {env0 env : Env} {W : World} {O : Nat → Nat → Prop} {R : Nat → Prop} (hst : St c env V W O R) (p : Nat → Nat) {v rv : AV} {news : List NEnt} (hv : v.ren p = rv) (hV : SubV p V news) (hn : (news.map fun x => p x.name).Nodup) (hcl : closedN v news = true) :
    Got c env0 v news (rv.den env) W := by
  classical
  have hcl' : ∀ n, (n ∈ v.ns ∨ ∃ x ∈ news, n ∈ x.ns) → ∃ x ∈ news, x.name = n := by
    intro n hn;have := List.all_eq_true.1 hcl n (by
      rw [List.mem_append, List.mem_flatMap]; exact hn)
    simpa [List.mem_map] using this
  refine ⟨fun n => if ∃ x ∈ news, x.name = n then env (p n) else env0 n, fun n => O (p n), R, fun n hn => ?_, ?_, ?_⟩
  · exact if_neg (by rintro ⟨x, hx, e⟩; exact hn x hx e)
  · subst hv;rw [AV.den_ren];exact AV.den_congr v fun n hn => by rw [if_pos (hcl' n (.inl (AV.has_ns v hn)))]
  · have h2 := hst.sub p hV.mem hn;exact ⟨h2.keep, fun x hx => NEnt.holds_congr (fun n hn => by rw [if_pos (hcl' n (.inr ⟨x, hx, NEnt.has_ns hn⟩))]) (h2.holds x hx), h2.own, h2.apart, h2.ro, h2.r0, h2.names⟩
theorem TC.ret {env0 : Env} (p : Nat → Nat) {v : AV} {news : List NEnt} {m : List AV} (hr : ResL P s V fn.results.toList m) (hv : v.ren p = resAV m) (hV : SubV p V news) (hn : (news.map fun x => p x.name).Nodup) (hcl : closedN v news = true) :
    TC P c (Fm.of sz) (bodyPost P fn (Post c env0 v news)) (.code .ret :: t) s V := by
  intro env tm W O R hf hst;refine Gw.ret ⟨rfl, (resAV m).den env, ?_, _, rfl, Got.mk hst p hv hV hn hcl⟩;have h := results_run hr hf hst;simp only [results_eq, Array.mapM_eq_mapM_toList, Sem.run_bind, Sem.run_map, h, Result.andThen_ok]
  cases m with
  | nil => rfl
  | cons a m => cases m with
    | nil => rfl
    | cons b m => rfl
theorem FC.intro {f : Nat} {body : Code} {args : List AV} {need news : List NEnt} {v : AV} (hf : P.funcs[f]? = some fn) (hb : fn.body = some body) (hsz : args.length + (fn.ntmps - args.length) = sz) (hnd : (need.map NEnt.name).Nodup)
    (h : ∀ (w0 : World) (R0 : Nat → Prop) (env0 : Env), TC P ⟨w0, fun _ => False, R0⟩ (Fm.of sz) (bodyPost P fn (Post ⟨w0, fun _ => False, R0⟩ env0 v news)) [.code body] (args.zipIdx.map fun p => (p.2, p.1)) need) : FC P f args need v news := by
  intro env w0 R0 hn hR;refine calls_of_wp hf hb ?_;refine Gw.wp (h w0 R0 env env _ w0 (fun _ _ => False) R0 ⟨by simp [denL_length, ← hsz, Fm.of], fun t a ha => ?_⟩ ⟨Keep.refl _ _, hn, fun _ _ _ h => h.elim, fun _ _ _ _ _ _ h => h.1, fun b hb => ⟨hR b hb, .inr (.inl hb)⟩, fun _ h => h, hnd⟩);have key : ∀ (l : List AV) (k : Nat), look ((l.zipIdx k).map fun p => (p.2, p.1)) t = some a → k ≤ t ∧ l[t - k]? = some a := by
    intro l
    induction l with
    | nil => intro k h; cases h
    | cons b l ih =>
      intro k h;simp only [List.zipIdx_cons, List.map_cons, look] at h
      split at h
      · rename_i e; subst e; cases h; simp
      · obtain ⟨h1, h2⟩ := ih (k + 1) h;refine ⟨by omega, ?_⟩;rw [show t - k = (t - (k + 1)) + 1 by omega]
        simpa using h2
  obtain ⟨_, hk⟩ := key args 0 ha;have := denL_get (e := env) hk;simp only [Nat.sub_zero] at this;rw [Array.getElem?_append_left (by simpa using (List.getElem?_eq_some_iff.1 this).1)]
  simpa using this
end
end Go.Proofs.Ythgbjhglhejalaa.Sy
end
section
set_option linter.unusedSimpArgs false
set_option linter.unusedVariables false
namespace Go.Proofs.Ythgbjhglhejalaa.Sy
open Go.RowKit
mutual
theorem AV.ren_id : ∀ (a : AV), a.ren id = a
  | .val _ => rfl
  | .ref _ => rfl
  | .ptr _ _ => rfl
  | .cell _ _ => rfl
  | .agg cs => by simp only [AV.ren, AV.renL_id cs]
  | .tup cs => by simp only [AV.ren, AV.renL_id cs]
  | .fn _ a b => by simp only [AV.ren, AV.renL_id a, AV.renL_id b]
theorem AV.renL_id : ∀ (l : List AV), AV.renL id l = l
  | [] => rfl
  | a :: l => by simp only [AV.renL, AV.ren_id a, AV.renL_id l]
end
theorem NEnt.ren_id (x : NEnt) : x.ren id = x := by cases x <;> simp [NEnt.ren, AV.renL_id]
def befStep (acc : List Nat) (o : Oper) : Nat := o.after.foldl (fun s e => if Region.binds .any e then s ||| 2 ^ e.on ||| acc.getD e.on 0 else s) 0
def befs : List Oper → List Nat → List Nat
  | [], acc => acc
  | o :: l, acc => befs l (acc ++ [befStep acc o])
def anc (ops : Array Oper) (_ i j : Nat) : Bool := ((befs ops.toList []).getD i 0).testBit j
theorem befStep_bit {acc : List Nat} {o : Oper} {j : Nat} (h : (befStep acc o).testBit j = true) : ∃ e ∈ o.after, Region.binds .any e = true ∧ (e.on = j ∨ (acc.getD e.on 0).testBit j = true) := by
  unfold befStep at h;rw [← Array.foldl_toList] at h;have key : ∀ (l : List Edge) (s : Nat), (l.foldl (fun s e => if Region.binds .any e then s ||| 2 ^ e.on ||| acc.getD e.on 0 else s) s).testBit j = true →
      s.testBit j = true ∨ ∃ e ∈ l, Region.binds .any e = true ∧ (e.on = j ∨ (acc.getD e.on 0).testBit j = true) := by
    intro l
    induction l with
    | nil => intro s h; exact .inl h
    | cons e l ih =>
      intro s h;rcases ih _ h with h | ⟨e', he', h'⟩
      · dsimp only at h
        split at h
        · rename_i hb
          rw [Nat.testBit_or, Nat.testBit_or, Nat.testBit_two_pow, Bool.or_eq_true, Bool.or_eq_true, decide_eq_true_eq] at h;rcases h with (h | h) | h
          · exact .inl h
          · exact .inr ⟨e, by simp, hb, .inl h⟩
          · exact .inr ⟨e, by simp, hb, .inr h⟩
        · exact .inl h
      · exact .inr ⟨e', by simp [he'], h'⟩
  rcases key _ 0 h with h | ⟨e, he, h⟩
  · simp at h
  · exact ⟨e, Array.mem_toList_iff.1 he, h⟩
theorem befs_get : ∀ (l : List Oper) (acc : List Nat) (i : Nat), (i < acc.length → (befs l acc).getD i 0 = acc.getD i 0) ∧
    (∀ o, l[i]? = some o → ∃ pre : List Nat, (befs l acc).getD (acc.length + i) 0 = befStep pre o ∧ pre.length = acc.length + i ∧ ∀ k, k < acc.length + i → pre.getD k 0 = (befs l acc).getD k 0) := by
  intro l
  induction l with
  | nil => intro acc i; exact ⟨fun _ => rfl, fun o h => by simp at h⟩
  | cons o l ih =>
    intro acc i;have hget : ∀ k, k < acc.length → (befs l (acc ++ [befStep acc o])).getD k 0 = acc.getD k 0 := fun k hk => by
      rw [(ih (acc ++ [befStep acc o]) k).1 (by simp; omega)];simp [hk, List.getElem?_append_left]
    refine ⟨hget i, fun o' ho' => ?_⟩
    cases i with
    | zero =>
      simp at ho'; subst ho';refine ⟨acc, ?_, by simp, fun k hk => (hget k (by omega)).symm⟩;have := (ih (acc ++ [befStep acc o]) acc.length).1 (by simp);simp only [befs, Nat.add_zero, this];simp
    | succ i =>
      obtain ⟨pre, h1, h2, h3⟩ := (ih (acc ++ [befStep acc o]) i).2 o' (by simpa using ho');simp only [List.length_append, List.length_cons, List.length_nil, Nat.zero_add] at h1 h2 h3;refine ⟨pre, ?_, by omega, fun k hk => h3 k (by omega)⟩;simp only [befs];rw [← h1]; congr 1; omega
def Closed (ops : Array Oper) (S : Array Bool) : Prop := ∀ i o, ops[i]? = some o → S.getD i false = true → ∀ e ∈ o.after, Region.binds .any e = true → S.getD e.on false = true
theorem anc_done {ops : Array Oper} {S : Array Bool} (hc : Closed ops S) : ∀ (f i j : Nat), anc ops f i j = true → (S.getD i false = true ∨ i ∈ Region.ready .any ops S) → S.getD j false = true := by
  intro f i
  induction i using Nat.strongRecOn with
  | _ i ih =>
    intro j h hi;simp only [anc] at h
    cases ho : ops[i]? with
    | none =>
      have hlt : ops.toList.length ≤ i := by simpa using Array.getElem?_eq_none_iff.1 ho
      have hlen : ∀ (l : List Oper) (acc : List Nat), (befs l acc).length = acc.length + l.length := by
        intro l
        induction l with
        | nil => intro acc; simp [befs]
        | cons o l ih => intro acc; simp only [befs, ih]; simp; omega
      rw [List.getD_eq_getElem?_getD, List.getElem?_eq_none (by rw [hlen]; simpa using hlt)] at h;simp at h
    | some o =>
      obtain ⟨pre, h1, h2, h3⟩ := (befs_get ops.toList [] i).2 o (by simpa using ho);simp only [List.length_nil, Nat.zero_add] at h1 h2 h3;rw [h1] at h;obtain ⟨e, he, hb, hj⟩ := befStep_bit h;have hdone : S.getD e.on false = true := by
        rcases hi with hi | hi
        · exact hc i o ho hi e he hb
        · obtain ⟨_, o', ho', hall⟩ := mem_ready.1 hi;rw [ho] at ho'; cases ho';exact hall e he hb
      rcases hj with hj | hj
      · rw [← hj]; exact hdone
      · by_cases hlt : e.on < i
        · rw [h3 e.on hlt] at hj;exact ih e.on hlt j hj (.inl hdone)
        · rw [List.getD_eq_getElem?_getD, List.getElem?_eq_none (by omega)] at hj;simp at hj
def delV (del : List Nat) (V : List NEnt) : List NEnt := match del with
  | [] => V
  | _ => V.filter fun y => !del.contains y.name
theorem mem_delV {del : List Nat} {V : List NEnt} {x : NEnt} : x ∈ delV del V ↔ x ∈ V ∧ x.name ∉ del := by
  unfold delV
  split
  · simp
  · simp
theorem delV_sub (del : List Nat) (V : List NEnt) : (delV del V).Sublist V := by
  unfold delV
  split
  · exact List.Sublist.refl _
  · exact List.filter_sublist
def TSpec (P : Program) (o : Oper) (ρ : Operand → Option AV) (take keep : List NEnt) (v : AV) (news : List NEnt) : Prop :=
  ∀ (ev : Operand → Value) (c : Ctx) (env : Env) (V : List NEnt) (W : World) (O : Nat → Nat → Prop) (R : Nat → Prop), (∀ x a, ρ x = some a → ev x = a.den env) → St c env V W O R → (∀ x ∈ take, x ∈ V) → (∀ x ∈ keep, x ∈ V) →
    (∀ y ∈ news, y.name ∈ take.map NEnt.name ∨ hasV y.name V = false) →
    Does P ((execOp ev o).run P W) fun u W' => ∃ env' O' R', (∀ n, (∀ y ∈ news, y.name ∉ take.map NEnt.name → y.name ≠ n) → env' n = env n) ∧ u = v.den env' ∧ St c env' (news ++ delV (take.map NEnt.name) V) W' O' R'
theorem OpSpec.t {P : Program} {o : Oper} {ρ : Operand → Option AV} {need : List NEnt} {v : AV} {news : List NEnt} (h : OpSpec P o ρ need v news) : TSpec P o ρ [] need v news := by
  intro ev c env V W O R he hst _ hk hn;refine (h ev env W O R he (fun x hx => hst.holds x (hk x hx)) (fun x hx b hb => (hst.own x (hk x hx) b hb).1) (fun b hb => (hst.ro b hb).1)).mono ?_
  rintro u W' ⟨env', O', R', he', hu, hg⟩
  obtain ⟨O2, h2, _⟩ := hst.next hg he' (fun x hx => (hn x hx).resolve_left (by simp));exact ⟨env', O2, R', fun n hn => he' n fun x hx => hn x hx (by simp), hu, h2⟩
theorem St.set_del {c : Ctx} {env : Env} {V : List NEnt} {W : World} {O : Nat → Nat → Prop} {R : Nat → Prop} {k : Nat} {x y : NEnt} (hk : V[k]? = some x) (hn : (V.map NEnt.name).Nodup) (he : y.name = x.name) (h : St c env (V.set k y) W O R) : St c env ([y] ++ delV [x.name] V) W O R := by
  refine h.sub (V' := [y] ++ delV [x.name] V) id (fun z hz => ?_) ?_
  · rw [NEnt.ren_id];rcases List.mem_cons.1 hz with rfl | hz
    · exact List.mem_iff_getElem?.2 ⟨k, by rw [List.getElem?_set_self (List.getElem?_eq_some_iff.1 hk).1]⟩
    · obtain ⟨h1, h2⟩ := mem_delV.1 hz;obtain ⟨i, hi⟩ := List.mem_iff_getElem?.1 h1;refine List.mem_iff_getElem?.2 ⟨i, ?_⟩;rw [List.getElem?_set_ne]
      · exact hi
      · intro e; subst e; rw [hk] at hi; cases hi; simp at h2
  · simp only [List.cons_append, List.nil_append, List.map_cons, List.nodup_cons, id];refine ⟨fun hm => ?_, hn.sublist ((delV_sub _ _).map NEnt.name)⟩;obtain ⟨z, hz, e⟩ := List.mem_map.1 hm;exact (mem_delV.1 hz).2 (by rw [e, he]; simp)
section
variable {P : Program} {s : List (Nat × AV)} {o : Oper}
theorem ts_storeB {T n off : Nat} {x y : Operand} {cells cells' : List AV} {T' : TypeId} {a : AV} {N : Nat} {ag : Bool} {need : List NEnt} (ho : o.op = .store T x y) (hx : rho s x = some (.ptr n off)) (hy : rho s y = some a) (hfl : a.flat = true)
    (hT : VarT P T N ag) (hN : a.cs.length = N) (hle : Nat.ble (off + a.cs.length) cells.length = true) (hc : cells.take off ++ a.cs ++ cells.drop (off + a.cs.length) = cells') : TSpec P o (rho s) [.blk n cells T'] need (.val undef) [.blk n cells' T'] := by
  subst hc; subst hN;intro ev c env V W O R he hst ht _ _;obtain ⟨k, hk⟩ := List.mem_iff_getElem?.1 (ht _ (List.mem_singleton.2 rfl));refine (coreB he hst k ho hx hk hy hfl hT.sizeOf (Nat.le_of_ble_eq_true hle)).mono ?_
  rintro u W' ⟨rfl, h⟩
  exact ⟨env, O, R, fun _ _ => rfl, rfl, St.set_del hk hst.names rfl h⟩
theorem ts_storeR {T n kk size E : Nat} (i j : Nat) {x y : Operand} {els els' : List (List D)} {el ds : List D} {a : AV} {need : List NEnt} {N : Nat} {ag : Bool} (ho : o.op = .store T x y) (hx : rho s x = some (.cell n kk))
    (hy : rho s y = some a) (hfl : a.flat = true) (hT : VarT P T N ag) (hN : a.cs.length = N) (hkk : kk = i * size + j) (hi : els[i]? = some el) (hle : Nat.ble (j + a.cs.length) size = true) (hpos : Nat.blt 0 size = true) (had : ADL need a.cs ds)
    (hc : els.set i (el.take j ++ ds ++ el.drop (j + ds.length)) = els') : TSpec P o (rho s) [.row n E size els] need (.val undef) [.row n E size els'] := by
  subst hc; subst hN;intro ev c env V W O R he hst ht hneed _;obtain ⟨k, hk⟩ := List.mem_iff_getElem?.1 (ht _ (List.mem_singleton.2 rfl));refine (coreR he hst k ho hx hk hy hfl hT.sizeOf hkk hi (Nat.le_of_ble_eq_true hle) (by simpa [Nat.blt_eq] using hpos) hneed had).mono ?_
  rintro u W' ⟨rfl, h⟩
  exact ⟨env, O, R, fun _ _ => rfl, rfl, St.set_del hk hst.names rfl h⟩
end
structure DO where
  v : AV
  news : List NEnt
  need : List NEnt
  take : List NEnt := []
def DO.del (d : DO) : List Nat := d.take.map NEnt.name
def putS (o : Oper) (v : AV) (s : List (Nat × AV)) : List (Nat × AV) := match o.dst with
  | some d => (d, v) :: s
  | none => s
def sAfter : List Oper → List DO → List (Nat × AV) → List (Nat × AV)
  | o :: l, d :: ds, s => sAfter l ds (putS o d.v s)
  | _, _, s => s
def vAfter : List DO → List NEnt → List NEnt
  | d :: ds, V => vAfter ds (d.news ++ delV d.del V)
  | [], V => V
theorem look_sAfter {t : Nat} {a : AV} : ∀ (l : List Oper) (ds : List DO) (s : List (Nat × AV)), look (sAfter l ds s) t = some a →
    (∃ (j : Nat) (o : Oper) (d : DO), l[j]? = some o ∧ ds[j]? = some d ∧ o.dst = some t ∧ a = d.v) ∨ (look s t = some a ∧ ∀ (j : Nat) (o : Oper) (d : DO), l[j]? = some o → ds[j]? = some d → o.dst ≠ some t) := by
  intro l
  induction l with
  | nil => intro ds s h; exact .inr ⟨by cases ds <;> exact h, by simp⟩
  | cons o l ih =>
    intro ds s h
    cases ds with
    | nil => exact .inr ⟨h, by simp⟩
    | cons d ds =>
      rcases ih ds _ h with ⟨j, o', d', h1, h2, h3, h4⟩ | ⟨h1, h2⟩
      · exact .inl ⟨j + 1, o', d', by simpa using h1, by simpa using h2, h3, h4⟩
      · have hrest : ∀ (j : Nat) (o' : Oper) (d' : DO), o.dst ≠ some t → (o :: l)[j]? = some o' → (d :: ds)[j]? = some d' → o'.dst ≠ some t := by
          intro j o' d' e g1 g2
          cases j with
          | zero => simp at g1; subst g1; exact e
          | succ j => exact h2 j o' d' (by simpa using g1) (by simpa using g2)
        unfold putS at h1
        cases hd : o.dst with
        | none => rw [hd] at h1; exact .inr ⟨h1, fun j o' d' => hrest j o' d' (by rw [hd]; simp)⟩
        | some u =>
          rw [hd] at h1;simp only [look] at h1
          split at h1
          · rename_i e; cases h1
            exact .inl ⟨0, o, d, rfl, rfl, by rw [hd, e], rfl⟩
          · rename_i e
            exact .inr ⟨h1, fun j o' d' => hrest j o' d' (by rw [hd]; simpa using e)⟩
theorem mem_vAfter {x : NEnt} : ∀ (ds : List DO) (V : List NEnt), x ∈ vAfter ds V → (x ∈ V ∧ ∀ (r : Nat) (d : DO), ds[r]? = some d → x.name ∉ d.del) ∨ ∃ (j : Nat) (d : DO), ds[j]? = some d ∧ x ∈ d.news ∧ ∀ (r : Nat) (d' : DO), j < r → ds[r]? = some d' → x.name ∉ d'.del := by
  intro ds
  induction ds with
  | nil => intro V h; exact .inl ⟨h, by simp⟩
  | cons d ds ih =>
    intro V h;rcases ih _ h with ⟨h1, h2⟩ | ⟨j, d', h1, h2, h3⟩
    · rcases List.mem_append.1 h1 with h1 | h1
      · refine .inr ⟨0, d, rfl, h1, fun r d' hr hd => ?_⟩;obtain ⟨r, rfl⟩ : ∃ k, r = k + 1 := ⟨r - 1, by omega⟩;exact h2 r d' (by simpa using hd)
      · obtain ⟨g1, g2⟩ := mem_delV.1 h1;refine .inl ⟨g1, fun r d' hd => ?_⟩
        cases r with
        | zero => simp at hd; subst hd; exact g2
        | succ r => exact h2 r d' (by simpa using hd)
    · refine .inr ⟨j + 1, d', by simpa using h1, h2, fun r d2 hr hd => ?_⟩;obtain ⟨r, rfl⟩ : ∃ k, r = k + 1 := ⟨r - 1, by omega⟩;exact h3 r d2 (by omega) (by simpa using hd)
def delOk (ops : Array Oper) (outs : List DO) (i : Nat) (j : Option Nat) (n : Nat) : Bool :=
  outs.zipIdx.all fun (d, r) => !d.del.contains n || r == i || anc ops ops.size r i || j == some r || (match j with
    | some j' => Nat.blt r j' && (match outs[j']? with | some d' => d'.del.contains n | none => false)
    | none => false)
def NeedOk (ops : Array Oper) (outs : List DO) (V : List NEnt) (i : Nat) (x : NEnt) : Prop :=
  (x ∈ V ∧ delOk ops outs i none x.name = true) ∨ ∃ (j : Nat) (d : DO), outs[j]? = some d ∧ anc ops ops.size i j = true ∧ x ∈ d.news ∧ delOk ops outs i (some j) x.name = true
inductive DAll (P : Program) (ops : Array Oper) (outs : List DO) (V : List NEnt) : Nat → List Oper → List DO → List (Nat × AV) → Prop where
  | nil {i l s} : DAll P ops outs V i l [] s
  | op {i o l d ds s} : Wanted ops s o → TSpec P o (rho s) d.take d.need d.v d.news → (∀ x ∈ d.take, NeedOk ops outs V i x) → (∀ x ∈ d.need, NeedOk ops outs V i x) → DAll P ops outs V (i + 1) l ds (putS o d.v s) → DAll P ops outs V i (o :: l) (d :: ds) s
  | skip {i o l d ds s} : Unwanted ops s o → d.v = .val undef → d.news = [] → d.take = [] → DAll P ops outs V (i + 1) l ds (putS o d.v s) → DAll P ops outs V i (o :: l) (d :: ds) s
theorem DAll.at {P : Program} {ops : Array Oper} {outs : List DO} {V : List NEnt} {i : Nat} {l : List Oper} {ds : List DO} {s : List (Nat × AV)} (h : DAll P ops outs V i l ds s) : ∀ (k : Nat) (o : Oper) (d : DO), l[k]? = some o → ds[k]? = some d →
    (Wanted ops (sAfter (l.take k) (ds.take k) s) o ∧ TSpec P o (rho (sAfter (l.take k) (ds.take k) s)) d.take d.need d.v d.news ∧ (∀ x ∈ d.take, NeedOk ops outs V (i + k) x) ∧ (∀ x ∈ d.need, NeedOk ops outs V (i + k) x)) ∨
    (Unwanted ops (sAfter (l.take k) (ds.take k) s) o ∧ d.v = .val undef ∧ d.news = [] ∧ d.take = []) := by
  induction h with
  | nil => intro k o d _ h; simp at h
  | op h1 h2 h3 h4 _ ih =>
    intro k o d ho hd
    cases k with
    | zero => simp at ho hd; subst ho; subst hd; exact .inl ⟨h1, h2, h3, h4⟩
    | succ k =>
      have := ih k o d (by simpa using ho) (by simpa using hd);simp only [List.take_succ_cons, sAfter];rw [show ∀ i : Nat, i + (k + 1) = i + 1 + k by omega];exact this
  | skip h1 h2 h3 h4 _ ih =>
    intro k o d ho hd
    cases k with
    | zero => simp at ho hd; subst ho; subst hd; exact .inr ⟨h1, h2, h3, h4⟩
    | succ k =>
      have := ih k o d (by simpa using ho) (by simpa using hd);simp only [List.take_succ_cons, sAfter];rw [show ∀ i : Nat, i + (k + 1) = i + 1 + k by omega];exact this
theorem DAll.len {P : Program} {ops : Array Oper} {outs : List DO} {V : List NEnt} {i : Nat} {l : List Oper} {ds : List DO} {s : List (Nat × AV)} (h : DAll P ops outs V i l ds s) : ds.length ≤ l.length := by
  induction h with
  | nil => simp
  | op _ _ _ _ _ ih => simpa using ih
  | skip _ _ _ _ _ ih => simpa using ih
def dStatic (ops : Array Oper) (m sz : Nat) : Bool :=
  Region.noSelect ops && decide (m ≤ ops.size) &&
  ((List.range m).all fun i => match ops[i]? with
    | none => false
    | some o => (match o.dst with | some d => Nat.blt d sz | none => true) &&
      (List.range m).all fun j => match ops[j]? with
        | none => false
        | some o' => (i == j || o.dst == none || o.dst != o'.dst) && (match o'.dst with | some d => !(o.looksAt ops).contains d || (anc ops ops.size i j && Nat.blt j i) || (anc ops ops.size j i && Nat.blt i j) | none => true)) &&
  ((List.range ops.size).all fun i => match ops[i]? with | none => true | some o => o.after.all fun e => !Region.binds .any e || Nat.blt e.on i) &&
  ((List.range ops.size).all fun k => Nat.blt k m || (List.range k).all fun j => anc ops ops.size k j) &&
  Region.seqB .any ops (ops.size - m) m ((Array.range ops.size).map fun i => Nat.blt i m)
def outHas (n : Nat) (d : DO) : Bool := d.v.has n || hasV n d.news || d.del.contains n
def dFresh (ops : Array Oper) (outs : List DO) (s : List (Nat × AV)) (V : List NEnt) : Bool :=
  outs.zipIdx.all fun (d, i) => (d.news.all fun x => d.del.contains x.name || (!hasS x.name s && !hasV x.name V)) &&
    outs.zipIdx.all fun (d', j) => (i == j || ((d.news.all fun x => d.del.contains x.name || !outHas x.name d' || anc ops ops.size j i) &&
      d.del.all fun n => (!d'.del.contains n || (anc ops ops.size i j && Nat.blt j i) || (anc ops ops.size j i && Nat.blt i j)) && (!Nat.blt i j || d'.del.contains n || d'.news.all fun x => x.name != n)))
theorem hasV_false {n : Nat} {V : List NEnt} (h : ∀ x ∈ V, x.has n = false) : hasV n V = false := by
  induction V with
  | nil => rfl
  | cons x l ih => simp only [hasV, h x (by simp), ih (fun y hy => h y (by simp [hy])), Bool.or_self]
theorem hasV_mem {n : Nat} {V : List NEnt} (h : hasV n V = false) {x : NEnt} (hx : x ∈ V) : x.has n = false := by
  cases e : x.has n with
  | false => rfl
  | true => rw [mem_has hx e] at h; cases h
structure DInv (l : List Oper) (outs : List DO) (m sz : Nat) (s : List (Nat × AV)) (V : List NEnt) (S : Array Bool) (env : Env) (tm : Array Value) (V' : List NEnt) : Prop where
  size : S.size = l.length
  closed : Closed l.toArray S
  tail : ∀ i, m ≤ i → S.getD i false = false
  tsz : tm.size = sz
  f0 : ∀ t a, look s t = some a → (∀ (j : Nat) (o : Oper), j < m → l[j]? = some o → o.dst = some t → S.getD j false = false) → tm[t]? = some (a.den env)
  f1 : ∀ (j : Nat) (o : Oper) (d : DO), l[j]? = some o → outs[j]? = some d → S.getD j false = true → ∀ dd, o.dst = some dd → tm[dd]? = some (d.v.den env)
  vm : ∀ x, x ∈ V' ↔ (x ∈ V ∨ ∃ (j : Nat) (d : DO), outs[j]? = some d ∧ S.getD j false = true ∧ x ∈ d.news) ∧ ∀ (r : Nat) (d : DO), outs[r]? = some d → S.getD r false = true → x.name ∈ d.del → ∃ (r' : Nat) (d' : DO), r ≤ r' ∧ outs[r']? = some d' ∧ S.getD r' false = true ∧ x.name ∈ d'.del ∧ x ∈ d'.news
structure DStat (l : List Oper) (m sz : Nat) : Prop where
  nosel : Region.noSelect l.toArray = true
  le : m ≤ l.length
  dst : ∀ (i : Nat) (o : Oper), i < m → l[i]? = some o → ∀ d, o.dst = some d → d < sz
  dist : ∀ (i j : Nat) (o o' : Oper), i < m → j < m → l[i]? = some o → l[j]? = some o' → i ≠ j → ∀ d, o.dst = some d → o'.dst ≠ some d
  reads : ∀ (i j : Nat) (o o' : Oper) (d : Nat), i < m → j < m → l[i]? = some o → l[j]? = some o' → o'.dst = some d → d ∈ o.looksAt l.toArray → (anc l.toArray l.length i j = true ∧ j < i) ∨ (anc l.toArray l.length j i = true ∧ i < j)
  edges : ∀ (i : Nat) (o : Oper), l[i]? = some o → ∀ e ∈ o.after, Region.binds .any e = true → e.on < i
  last : ∀ k, m ≤ k → k < l.length → ∀ j, j < k → anc l.toArray l.length k j = true
  seq : Region.seqB .any l.toArray (l.length - m) m ((Array.range l.length).map fun i => Nat.blt i m) = true
theorem dStat {l : List Oper} {m sz : Nat} (h : dStatic l.toArray m sz = true) : DStat l m sz := by
  simp only [dStatic, Bool.and_eq_true, decide_eq_true_eq, List.all_eq_true, List.mem_range, List.size_toArray] at h;obtain ⟨⟨⟨⟨⟨h1, h2⟩, h3⟩, h4⟩, h5⟩, h6⟩ := h;refine ⟨h1, h2, fun i o hi ho d hd => ?_, fun i j o o' hi hj ho ho' hne d hd => ?_, fun i j o o' d hi hj ho ho' hd hm => ?_, fun i o ho e he hb => ?_, fun k hk hlt j hj => ?_, h6⟩
  · have := h3 i hi;simp only [List.getElem?_toArray, ho, Bool.and_eq_true] at this;rw [hd] at this
    simpa [Nat.blt_eq] using this.1
  · have := h3 i hi;simp only [List.getElem?_toArray, ho, Bool.and_eq_true, List.all_eq_true, List.mem_range] at this;have := this.2 j hj;simp only [ho', Bool.and_eq_true, Bool.or_eq_true, beq_iff_eq, hne, false_or, bne_iff_ne, hd] at this;rcases this.1 with h | h
    · cases h
    · exact fun e => h e.symm
  · have := h3 i hi;simp only [List.getElem?_toArray, ho, Bool.and_eq_true, List.all_eq_true, List.mem_range] at this;have := this.2 j hj;simp only [ho', hd, Bool.and_eq_true, Bool.or_eq_true, Bool.not_eq_true'] at this;rcases this.2 with (h | h) | h
    · rw [List.contains_iff_mem.2 hm] at h; cases h
    · exact .inl ⟨h.1, by simpa [Nat.blt_eq] using h.2⟩
    · exact .inr ⟨h.1, by simpa [Nat.blt_eq] using h.2⟩
  · have hlt : i < l.length := (List.getElem?_eq_some_iff.1 ho).1;have := h4 i hlt;simp only [List.getElem?_toArray, ho, Array.all_eq_true_iff_forall_mem, Bool.or_eq_true, Bool.not_eq_true'] at this;have := this e he;simp only [hb, Bool.true_eq_false, false_or] at this
    simpa [Nat.blt_eq] using this
  · have := h5 k hlt;simp only [Bool.or_eq_true, List.all_eq_true, List.mem_range] at this;rcases this with h | h
    · rw [Nat.blt_eq] at h; omega
    · exact h j hj
def cnt (S : Array Bool) : Nat → Nat
  | 0 => 0
  | m + 1 => cnt S m + (if S.getD m false then 0 else 1)
theorem cnt_ge (S : Array Bool) (i : Nat) : ∀ m, m ≤ i → cnt (S.setIfInBounds i true) m = cnt S m := by
  intro m
  induction m with
  | zero => intro _; rfl
  | succ m ih => intro h; simp only [cnt, ih (by omega)]; rw [getD_set_ne false (by omega)]
theorem cnt_set (S : Array Bool) (i : Nat) (hi : i < S.size) (h0 : S.getD i false = false) : ∀ m, i < m → cnt (S.setIfInBounds i true) m + 1 = cnt S m := by
  intro m
  induction m with
  | zero => intro h; omega
  | succ m ih =>
    intro h;simp only [cnt]
    by_cases e : i = m
    · subst e;rw [cnt_ge S i i (Nat.le_refl _), h0];have : (S.setIfInBounds i true).getD i false = true := by simp [hi]
      rw [this]; simp
    · rw [getD_set_ne false e];have := ih (by omega)
      omega
theorem cnt_zero (S : Array Bool) : ∀ m, cnt S m = 0 → ∀ j, j < m → S.getD j false = true := by
  intro m
  induction m with
  | zero => intro _ j h; omega
  | succ m ih =>
    intro h j hj;simp only [cnt] at h;rcases Nat.lt_or_ge j m with hlt | hge
    · exact ih (by omega) j hlt
    · have : j = m := by omega
      subst this
      by_cases e : S.getD j false = true
      · exact e
      · rw [if_neg e] at h; omega
theorem cnt_pos (S : Array Bool) : ∀ m, 0 < cnt S m → ∃ j, j < m ∧ S.getD j false = false ∧ ∀ k, k < j → S.getD k false = true := by
  intro m
  induction m with
  | zero => intro h; simp [cnt] at h
  | succ m ih =>
    intro h
    by_cases e : 0 < cnt S m
    · obtain ⟨j, h1, h2, h3⟩ := ih e;exact ⟨j, by omega, h2, h3⟩
    · have e0 : cnt S m = 0 := by omega
      simp only [cnt, e0] at h;refine ⟨m, by omega, ?_, cnt_zero S m e0⟩
      cases e : S.getD m false with
      | false => rfl
      | true => rw [e] at h; simp at h
section
variable {P : Program} {c : Ctx} {sz : Fm} {t : List Item} {s : List (Nat × AV)} {V : List NEnt} {l : List Oper} {outs : List DO} {m : Nat}
theorem wpAnyIn_of_seq {F : Fence} {n : Nat} {md : Region.Mode} {ops : Array Oper} {Q' : Exit → Act → World → Prop} : ∀ (l : List Oper) (k : Nat) (listed : Array Bool) (a : Act) (w : World), (∀ j, l[j]? = ops[k + j]?) →
    Region.seqB md ops l.length k listed = true → wpListIn F n P ops Q' l a w → wpAnyIn F n P md ops Q' l.length listed a w
  | [], _, _, _, _, _, hB, h => ⟨by simpa [Region.seqB] using hB, h⟩
  | o :: l, k, listed, a, w, hl, hB, h => by
    have h0 : ops[k]? = some o := by simpa using (hl 0).symm
    simp only [List.length_cons, Region.seqB, Bool.and_eq_true, decide_eq_true_eq] at hB;refine ⟨fun h1 => (by rw [hB.1] at h1; cases h1), fun i hi => ?_⟩;rw [hB.1] at hi;have hik : i = k := by simpa using hi
    subst hik;have hw : wpOpIn F n P ops Q' i (wpListIn F n P ops Q' l) a w := by unfold wpOpIn; simp only [h0]; exact h
    exact wpOpIn_mono (fun a' w' h' => wpAnyIn_of_seq l (i + 1) _ a' w' (fun j => by have := hl (j + 1); simpa [Nat.add_assoc, Nat.add_comm 1 j] using this) hB.2 h') hw
theorem DInv.slot (hd : DStat l m sz.sz) (hl : outs.length = m) {S : Array Bool} {env : Env} {tm : Array Value} {V' : List NEnt} (inv : DInv l outs m sz.sz s V S env tm V') {i : Nat} {o : Oper} (hi : i < m) (ho : l[i]? = some o) (hr : i ∈ Region.ready .any l.toArray S)
    {u : Nat} {a : AV} (hu : u ∈ o.looksAt l.toArray) (ha : look (sAfter (l.take i) (outs.take i) s) u = some a) : tm[u]? = some (a.den env) := by
  rcases look_sAfter _ _ _ ha with ⟨j, o', d, h1, h2, h3, rfl⟩ | ⟨h1, h2⟩
  · have hji : j < i := by
      have := (List.getElem?_eq_some_iff.1 h1).1;rw [List.length_take] at this; omega
    rw [List.getElem?_take_of_lt hji] at h1 h2;have hS := anc_done inv.closed _ i j ((hd.reads i j o o' u hi (by omega) ho h1 h3 hu).elim (·.1) fun q => absurd q.2 (by omega)) (.inr hr);exact inv.f1 j o' d h1 h2 hS u h3
  · refine inv.f0 u a h1 fun j o' hj ho' hdst => ?_
    rcases hd.reads i j o o' u hi hj ho ho' hdst hu with hq | hq
    case inr =>
      cases hSj : S.getD j false with
      | false => rfl
      | true =>
        have h1 := anc_done inv.closed _ j i hq.1 (.inl hSj);rw [getD_both (mem_ready.1 hr).1] at h1; cases h1
    have hji := hq.2;have hjo : (l.take i)[j]? = some o' := by rw [List.getElem?_take_of_lt hji]; exact ho'
    have hjd : (outs.take i)[j]? = some (outs[j]'(by omega)) := by rw [List.getElem?_take_of_lt hji]; simp
    exact absurd hdst (h2 j o' _ hjo hjd)
theorem DInv.there {S : Array Bool} {env : Env} {tm : Array Value} {V' : List NEnt} (inv : DInv l outs m sz.sz s V S env tm V') {i : Nat} (hr : i ∈ Region.ready .any l.toArray S) {x : NEnt} (hx : NeedOk l.toArray outs V i x) : x ∈ V' := by
  have h0 : S.getD i false = false := getD_both (mem_ready.1 hr).1;have key : ∀ jj : Option Nat, delOk l.toArray outs i jj x.name = true → ∀ (r : Nat) (d : DO), outs[r]? = some d → S.getD r false = true → x.name ∈ d.del → ∃ j' d', jj = some j' ∧ r ≤ j' ∧ outs[j']? = some d' ∧ x.name ∈ d'.del := by
    intro jj hk r d hrd hS hm;simp only [delOk, List.all_eq_true] at hk;have hmem : (d, r) ∈ outs.zipIdx := List.mem_iff_getElem?.2 ⟨r, by rw [List.getElem?_zipIdx, hrd]; simp⟩;have := hk (d, r) hmem;simp only [Bool.or_eq_true, Bool.not_eq_true', beq_iff_eq] at this;rcases this with (((h | h) | h) | h) | h
    · rw [List.contains_iff_mem.2 hm] at h; cases h
    · subst h; rw [h0] at hS; cases hS
    · have := anc_done inv.closed _ r i h (.inl hS);rw [h0] at this; cases this
    · exact ⟨r, d, h, Nat.le_refl _, hrd, hm⟩
    · cases jj with
      | none => cases h
      | some j' =>
        simp only [Bool.and_eq_true] at h;obtain ⟨g1, g2⟩ := h
        cases e : outs[j']? with
        | none => rw [e] at g2; cases g2
        | some d' =>
          rw [e] at g2;exact ⟨j', d', rfl, Nat.le_of_lt (Nat.blt_eq.mp g1), e, List.contains_iff_mem.1 g2⟩
  rcases hx with ⟨h1, h2⟩ | ⟨j, d, h1, h2, h3, h4⟩
  · exact (inv.vm x).2 ⟨.inl h1, fun r d hrd hS hm => by obtain ⟨_, _, e, _⟩ := key none h2 r d hrd hS hm; cases e⟩
  · have hS := anc_done inv.closed _ i j h2 (.inr hr);refine (inv.vm x).2 ⟨.inr ⟨j, d, h1, hS, h3⟩, fun r d' hrd hSr hm => ?_⟩;obtain ⟨j', d2, e, g1, g2, g3⟩ := key (some j) h4 r d' hrd hSr hm;cases e
    rw [h1] at g2; cases g2;exact ⟨j, d, g1, h1, hS, g3, h3⟩
theorem DInv.step (hd : DStat l m sz.sz) (hl : outs.length = m) (hf : dFresh l.toArray outs s V = true) (hall : DAll P l.toArray outs V 0 l outs s) {S : Array Bool} {env : Env} {tm : Array Value} {V' : List NEnt} {W : World} {O : Nat → Nat → Prop} {R : Nat → Prop}
    (inv : DInv l outs m sz.sz s V S env tm V') (hst : St c env V' W O R) {i : Nat} (hi : i < m) (hr : i ∈ Region.ready .any l.toArray S) {Q' : Exit → Act → World → Prop} {K : Act → World → Prop}
    (hk : ∀ env' tm' V'' W' O' R', DInv l outs m sz.sz s V (S.setIfInBounds i true) env' tm' V'' → St c env' V'' W' O' R' → K ⟨tm', sz.df⟩ W') : wpOpIn (fw sz.ro) 0 P l.toArray Q' i K ⟨tm, sz.df⟩ W := by
  obtain ⟨h0, o, ho', hedge⟩ := mem_ready.1 hr;have ho : l[i]? = some o := by simpa using ho'
  have hdlt := hd.dst i o hi ho;have hid : outs[i]? = some (outs[i]'(by omega)) := by simp
  generalize hdef : outs[i]'(by omega) = d at hid
  have hS0 : S.getD i false = false := getD_both h0;have hSsz : i < S.size := by rw [inv.size]; exact (List.getElem?_eq_some_iff.1 ho).1
  -- the new state
  have hS' : ∀ j, (S.setIfInBounds i true).getD j false = true → j = i ∨ S.getD j false = true := by
    intro j hj
    by_cases e : i = j
    · exact .inl e.symm
    · rw [getD_set_ne false e] at hj; exact .inr hj
  have hSi : (S.setIfInBounds i true).getD i false = true := by simp [hSsz]
  have hmono : ∀ j, S.getD j false = true → (S.setIfInBounds i true).getD j false = true := fun j hj => getD_set_true hj
  have hclosed : Closed l.toArray (S.setIfInBounds i true) := by
    intro j o' hj hjs e he hb;rcases hS' j hjs with rfl | hjs
    · have : l.toArray[j]? = some o := ho';rw [this] at hj; cases hj;exact hmono _ (hedge e he hb)
    · exact hmono _ (inv.closed j o' hj hjs e he hb)
  have htail : ∀ j, m ≤ j → (S.setIfInBounds i true).getD j false = false := fun j hj => by
    rw [getD_set_ne false (by omega)]; exact inv.tail j hj
  -- what the text says of this one and another one that is done
  have hpair : (∀ x ∈ d.news, x.name ∉ d.del → hasS x.name s = false ∧ hasV x.name V = false) ∧
      ∀ (j : Nat) (d' : DO), outs[j]? = some d' → S.getD j false = true → (∀ x ∈ d.news, x.name ∉ d.del → outHas x.name d' = false) ∧ ∀ n ∈ d.del, n ∈ d'.del → j < i := by
    simp only [dFresh, List.all_eq_true, Bool.and_eq_true, Bool.not_eq_true', Bool.or_eq_true, beq_iff_eq] at hf;have hm : (d, i) ∈ outs.zipIdx := List.mem_iff_getElem?.2 ⟨i, by rw [List.getElem?_zipIdx, hid]; simp⟩;obtain ⟨g1, g2⟩ := hf (d, i) hm;refine ⟨fun x hx hxd => ?_, fun j d' hj hjs => ?_⟩
    · rcases g1 x hx with g | g
      · exact absurd (List.contains_iff_mem.1 g) hxd
      · exact g
    · have hm' : (d', j) ∈ outs.zipIdx := List.mem_iff_getElem?.2 ⟨j, by rw [List.getElem?_zipIdx, hj]; simp⟩;have hno : anc l.toArray l.toArray.size j i = true → False := fun g => by
        have := anc_done inv.closed _ j i g (.inl hjs);rw [hS0] at this; cases this
      rcases g2 (d', j) hm' with g | g
      · have e : i = j := g;subst e; rw [hS0] at hjs; cases hjs
      · refine ⟨fun x hx hxd => ?_, fun n hn hn' => ?_⟩
        · rcases g.1 x hx with (g | g) | g
          · exact absurd (List.contains_iff_mem.1 g) hxd
          · exact g
          · exact (hno g).elim
        · rcases (g.2 n hn).1 with (g | g) | g
          · rw [List.contains_iff_mem.2 hn'] at g; cases g
          · exact Nat.blt_eq.mp g.2
          · exact (hno g.1).elim
  have hfrV : ∀ x ∈ d.news, x.name ∉ d.del → hasV x.name V' = false := by
    intro x hx hxd;obtain ⟨g2, g3⟩ := hpair;refine hasV_false fun y hy => ?_
    rcases ((inv.vm y).1 hy).1 with hy | ⟨j, d', h1, h2, h3⟩
    · exact hasV_mem (g2 x hx hxd).2 hy
    · have := (g3 j d' h1 h2).1 x hx hxd;simp only [outHas, Bool.or_eq_false_iff] at this;exact hasV_mem this.1.2 h3
  have hnext : ∀ (env' : Env) (u : Value) (tm' : Array Value) (W' : World) (O' : Nat → Nat → Prop) (R' : Nat → Prop), (∀ n, (∀ y ∈ d.news, y.name ∉ d.del → y.name ≠ n) → env' n = env n) → (∀ dd, o.dst = some dd → u = d.v.den env') → tm' = (match o.dst with | some dd => tm.setIfInBounds dd u | none => tm) → St c env' (d.news ++ delV d.del V') W' O' R' → K ⟨tm', sz.df⟩ W' := by
    intro env' u tm' W' O' R' he hu htm hst';have hcong : ∀ a : AV, (∀ x ∈ d.news, x.name ∉ d.del → a.has x.name = false) → a.den env' = a.den env := fun a ha => AV.den_congr a fun n hn => he n fun x hx hxd e => by subst e; rw [ha x hx hxd] at hn; cases hn
    have htm0 : tm'.size = tm.size := by rw [htm]; split <;> simp
    have htm1 : ∀ t, o.dst ≠ some t → tm'[t]? = tm[t]? := fun t ht => by
      rw [htm]; split
      · rename_i dd e
        rw [Array.getElem?_setIfInBounds, if_neg (fun h => ht (by rw [e, h]))]
      · rfl
    refine hk env' _ _ W' O' R' ⟨by simpa using inv.size, hclosed, htail, by rw [htm0]; exact inv.tsz, fun t a ht hno => ?_, fun j o' d' hj hjd hjs dd' hdd' => ?_, fun x => ?_⟩ hst'
    · have hne : o.dst ≠ some t := fun e => by
        have := hno i o hi ho e;rw [hSi] at this; cases this
      rw [htm1 t hne];rw [inv.f0 t a ht fun j o' hj ho'' hdst => by
        have := hno j o' hj ho'' hdst
        cases e : S.getD j false with
        | false => rfl
        | true => rw [hmono j e] at this; cases this]
      rw [hcong a fun x hx hxd => by
        cases e : a.has x.name with
        | false => rfl
        | true => have := look_has ht e; rw [(hpair.1 x hx hxd).1] at this; cases this]
    · rcases hS' j hjs with rfl | hjs'
      · rw [ho] at hj; cases hj;rw [hid] at hjd; cases hjd;rw [htm, hdd', Array.getElem?_setIfInBounds, if_pos rfl, if_pos (by rw [inv.tsz]; exact hdlt _ hdd'), hu _ hdd']
      · have hjm : j < m := by
          have := (List.getElem?_eq_some_iff.1 hjd).1; omega
        have hne : o.dst ≠ some dd' := fun e => hd.dist i j o o' hi hjm ho hj (fun e => by subst e; rw [hS0] at hjs'; cases hjs') dd' e hdd'
        rw [htm1 dd' hne, inv.f1 j o' d' hj hjd hjs' dd' hdd'];rw [hcong d'.v fun x hx hxd => by
          have := (hpair.2 j d' hjd hjs').1 x hx hxd;simp only [outHas, Bool.or_eq_false_iff] at this;exact this.1.1]
    · rw [List.mem_append, mem_delV, inv.vm x]
      constructor
      · rintro (h | ⟨⟨h1, h2⟩, h3⟩)
        · refine ⟨.inr ⟨i, d, hid, hSi, h⟩, fun r d' hrd hrs hm => ?_⟩;rcases hS' r hrs with rfl | hrs
          · rw [hid] at hrd; cases hrd; exact ⟨_, _, Nat.le_refl _, hid, hSi, hm, h⟩
          · obtain ⟨g1, g2⟩ := hpair.2 r d' hrd hrs
            by_cases hxd : x.name ∈ d.del
            · exact ⟨_, _, Nat.le_of_lt (g2 _ hxd hm), hid, hSi, hxd, h⟩
            · have := g1 x h hxd;simp only [outHas, Bool.or_eq_false_iff] at this;rw [List.contains_iff_mem.2 hm] at this; cases this.2
        · refine ⟨?_, fun r d' hrd hrs hm => ?_⟩
          · rcases h1 with h1 | ⟨j, d', g1, g2, g3⟩
            · exact .inl h1
            · exact .inr ⟨j, d', g1, hmono j g2, g3⟩
          · rcases hS' r hrs with rfl | hrs
            · rw [hid] at hrd; cases hrd; exact absurd hm h3
            · obtain ⟨r', d2, q1, q2, q3, q4⟩ := h2 r d' hrd hrs hm;exact ⟨r', d2, q1, q2, hmono _ q3, q4⟩
      · rintro ⟨h1, h2⟩
        by_cases hxd : x.name ∈ d.del
        · obtain ⟨r', d2, q1, q2, q3, q4, q5⟩ := h2 i d hid hSi hxd;rcases hS' r' q3 with rfl | q3
          · rw [hid] at q2; cases q2; exact .inl q5
          · have := (hpair.2 r' d2 q2 q3).2 _ hxd q4
            omega
        · have h2' : ∀ (r : Nat) (d : DO), outs[r]? = some d → S.getD r false = true → x.name ∈ d.del → ∃ (r' : Nat) (d' : DO), r ≤ r' ∧ outs[r']? = some d' ∧ S.getD r' false = true ∧ x.name ∈ d'.del ∧ x ∈ d'.news := by
            intro r d' hrd hrs hm;obtain ⟨r', d2, q1, q2, q3, q4, q5⟩ := h2 r d' hrd (hmono r hrs) hm;rcases hS' r' q3 with rfl | q3
            · rw [hid] at q2; cases q2; exact absurd q4 hxd
            · exact ⟨r', d2, q1, q2, q3, q4, q5⟩
          rcases h1 with h1 | ⟨j, d', g1, g2, g3⟩
          · exact .inr ⟨⟨.inl h1, h2'⟩, hxd⟩
          · rcases hS' j g2 with rfl | g2
            · rw [hid] at g1; cases g1; exact .inl g3
            · exact .inr ⟨⟨.inr ⟨j, d', g1, g2, g3⟩, h2'⟩, hxd⟩
  have hslot : ∀ {u : Nat} {a : AV}, u ∈ o.looksAt l.toArray → look (sAfter (l.take i) (outs.take i) s) u = some a → tm[u]? = some (a.den env) := fun hu ha => inv.slot hd hl hi ho hr hu ha
  unfold wpOpIn;simp only [ho'];rcases hall.at i o d ho hid with ⟨hw, hspec, htake, hneed⟩ | ⟨hw, hv, hnews, htake⟩
  · have hwant : Region.wanted o (yielded l.toArray tm) = true := by
      unfold Wanted at hw; unfold Region.wanted
      split at hw <;> rename_i hg <;> simp only [hg]
      rename_i gj want
      obtain ⟨g, h1, h2⟩ := hw;have h1' : (l[gj]?).bind (·.dst) = some g := by simpa using h1
      have hmem : g ∈ o.looksAt l.toArray := List.mem_append_right _ (by simp [hg, h1']);have := hslot hmem h2;simp [yielded, h1', this, AV.den]
    rw [if_pos hwant]
    -- the operands as the text's order has them
    have hcongr : execOp (fun x => match rho (sAfter (l.take i) (outs.take i) s) x with | some a => a.den env | none => Act.eval ⟨tm, sz.df⟩ x) o = execOp (Act.eval ⟨tm, sz.df⟩) o := by
      refine execOp_congr o (fun cs b => Region.noSelect_spec hd.nosel i o cs b ho') fun x hx => ?_
      cases x with
      | tmp t =>
        simp only [rho]
        split
        · rename_i a ha
          have := hslot (List.mem_append_left _ (List.mem_filterMap.2 ⟨.tmp t, by simpa using hx, rfl⟩)) ha;simp [Act.eval, this]
        · rfl
      | const v => rfl
      | global g => rfl
      | func f => rfl
    simp only [Nat.zero_add] at htake hneed;have hD := hspec (fun x => match rho (sAfter (l.take i) (outs.take i) s) x with | some a => a.den env | none => Act.eval ⟨tm, sz.df⟩ x) c env V' W O R (fun x a hx => by simp only [hx]) hst
      (fun x hx => inv.there hr (htake x hx)) (fun x hx => inv.there hr (hneed x hx))
      (fun y hy => by
        by_cases e : y.name ∈ d.del
        · exact .inl e
        · exact .inr (hfrV y hy e))
    rw [hcongr] at hD;refine hD.inn ?_
    rintro u W' ⟨env', O', R', he, hu, hg⟩
    have hput : ({ tmps := tm, defers := sz.df } : Act).put o.dst u = ⟨match o.dst with | some dd => tm.setIfInBounds dd u | none => tm, sz.df⟩ := by cases o.dst <;> rfl
    rw [hput];exact hnext env' u _ W' O' R' he (fun _ _ => hu) rfl hg
  · have hwant : Region.wanted o (yielded l.toArray tm) = false := by
      unfold Unwanted at hw; unfold Region.wanted
      split at hw
      · exact hw.elim
      · rename_i gj want hg
        simp only [hg];obtain ⟨g, h1, h2⟩ := hw;have h1' : (l[gj]?).bind (·.dst) = some g := by simpa using h1
        have hmem : g ∈ o.looksAt l.toArray := List.mem_append_right _ (by simp [hg, h1']);rcases h2 with h2 | h2
        · have := hslot hmem h2;simp [yielded, h1', this, AV.den]
        · have := hslot hmem h2;simp [yielded, h1', this, AV.den, undef]
    rw [if_neg (by rw [hwant]; simp)];have hput : ({ tmps := tm, defers := sz.df } : Act).put o.dst undef = ⟨match o.dst with | some dd => tm.setIfInBounds dd undef | none => tm, sz.df⟩ := by cases o.dst <;> rfl
    rw [hput];refine ⟨fun _ _ => trivial, ?_⟩;exact hnext env undef _ W O R (fun _ _ => rfl) (fun _ _ => by rw [hv]; rfl) rfl (by rw [hnews, show d.del = [] by simp [DO.del, htake]]; exact hst)
theorem draw_any {Q : Exit → Act → World → Prop} (hd : DStat l m sz.sz) (hl : outs.length = m) (hf : dFresh l.toArray outs s V = true) (hall : DAll P l.toArray outs V 0 l outs s) (hnd : ((vAfter outs V).map NEnt.name).Nodup)
    (k : TL P c sz Q l.toArray (l.drop m) t (sAfter l outs s) (vAfter outs V)) : ∀ (f : Nat) (S : Array Bool) (env : Env) (tm : Array Value) (V' : List NEnt) (W : World) (O : Nat → Nat → Prop) (R : Nat → Prop),
    DInv l outs m sz.sz s V S env tm V' → St c env V' W O R → cnt S m = f → wpAnyIn (fw sz.ro) 0 P .any l.toArray (fun e a w => e = .normal ∧ Gw P sz.ro t Q a w) (f + (l.length - m)) S ⟨tm, sz.df⟩ W := by
  intro f
  induction f with
  | zero =>
    intro S env tm V' W O R inv hst hc;have hdone := cnt_zero S m hc;have hS : S = (Array.range l.length).map fun i => Nat.blt i m := by
      apply Array.ext
      · simp [inv.size]
      · intro i h1 h2;simp only [Array.getElem_map, Array.getElem_range];have hg : S[i] = S.getD i false := by simp [h1]
        rw [hg];rcases Nat.lt_or_ge i m with hlt | hge
        · rw [hdone i hlt]; exact (show Nat.blt i m = true by rw [Nat.blt_eq]; exact hlt).symm
        · rw [inv.tail i hge]
          cases e : Nat.blt i m with
          | false => rfl
          | true => rw [Nat.blt_eq] at e; omega
    have hfr : Fr env sz.sz (sAfter l outs s) tm := by
      refine ⟨inv.tsz, fun t a ha => ?_⟩;rcases look_sAfter _ _ _ ha with ⟨j, o', d, h1, h2, h3, rfl⟩ | ⟨h1, h2⟩
      · have hjm : j < m := by have := (List.getElem?_eq_some_iff.1 h2).1; omega
        exact inv.f1 j o' d h1 h2 (hdone j hjm) t h3
      · refine inv.f0 t a h1 fun j o' hj ho' hdst => ?_
        exact absurd hdst (h2 j o' (outs[j]'(by omega)) ho' (by simp))
    have hst2 := hst.sub (V' := vAfter outs V) id (fun x hx => by
      rw [NEnt.ren_id];refine (inv.vm x).2 ?_;rcases mem_vAfter outs V hx with ⟨h1, h2⟩ | ⟨j, d, h1, h2, h3⟩
      · exact ⟨.inl h1, fun r d hrd _ hm => absurd hm (h2 r d hrd)⟩
      · have hjm : j < m := by have := (List.getElem?_eq_some_iff.1 h1).1; omega
        refine ⟨.inr ⟨j, d, h1, hdone j hjm, h2⟩, fun r d' hrd _ hm => ?_⟩;rcases Nat.lt_trichotomy r j with hlt | e | hgt
        · simp only [dFresh, List.all_eq_true, Bool.and_eq_true, Bool.not_eq_true', Bool.or_eq_true, beq_iff_eq] at hf;have hm1 : (d', r) ∈ outs.zipIdx := List.mem_iff_getElem?.2 ⟨r, by rw [List.getElem?_zipIdx, hrd]; simp⟩;have hm2 : (d, j) ∈ outs.zipIdx := List.mem_iff_getElem?.2 ⟨j, by rw [List.getElem?_zipIdx, h1]; simp⟩;rcases (hf (d', r) hm1).2 (d, j) hm2 with g | g
          · have : r = j := g
            omega
          · rcases (g.2 _ hm).2 with (g | g) | g
            · have hlt' : Nat.blt r j = true := by rw [Nat.blt_eq]; exact hlt
              rw [hlt'] at g; cases g
            · exact ⟨j, d, Nat.le_of_lt hlt, h1, hdone j hjm, List.contains_iff_mem.1 g, h2⟩
            · simpa using g x h2
        · subst e; rw [h1] at hrd; cases hrd; exact ⟨_, _, Nat.le_refl _, h1, hdone _ hjm, hm, h2⟩
        · exact absurd hm (h3 r d' hgt hrd)) hnd
    rw [Nat.zero_add, ← List.length_drop];refine wpAnyIn_of_seq (l.drop m) m S ⟨tm, sz.df⟩ W (fun j => by simp [List.getElem?_drop]) (by rw [List.length_drop, hS]; exact hd.seq) ?_;exact k env tm W _ R hfr hst2
  | succ f ih =>
    intro S env tm V' W O R inv hst hc;rw [show f + 1 + (l.length - m) = f + (l.length - m) + 1 by omega];refine ⟨fun h => ?_, fun i hi => ?_⟩
    · obtain ⟨j, h1, h2, h3⟩ := cnt_pos S m (by omega);have hjl : j < l.length := Nat.lt_of_lt_of_le h1 hd.le;have : j ∈ Region.ready .any l.toArray S := mem_ready.2 ⟨getD_in (by rw [inv.size]; exact hjl) h2, l[j], by simp [hjl], fun e he hb => h3 e.on (hd.edges j l[j] (by simp [hjl]) e he hb)⟩;rw [h] at this; cases this
    · rcases Nat.lt_or_ge i m with hlt | hge
      · refine inv.step hd hl hf hall hst hlt hi fun env' tm' V'' W' O' R' inv' hst' => ?_
        have hSz : i < S.size := by
          have := (mem_ready.1 hi).2;obtain ⟨o, ho, _⟩ := this;rw [inv.size]; simpa using (Array.getElem?_eq_some_iff.1 ho).1
        have h0 : S.getD i false = false := getD_both (mem_ready.1 hi).1;exact ih _ env' tm' V'' W' O' R' inv' hst' (by have := cnt_set S i hSz h0 m hlt; omega)
      · exfalso
        obtain ⟨j, h1, h2, _⟩ := cnt_pos S m (by omega);obtain ⟨o, ho, _⟩ := (mem_ready.1 hi).2;have hil : i < l.length := by simpa using (Array.getElem?_eq_some_iff.1 ho).1
        have := anc_done inv.closed _ i j (hd.last i hge hil j (by omega)) (.inr hi);rw [h2] at this; cases this
theorem TC.draw {Q : Exit → Act → World → Prop} {id : Nat} (m : Nat) (outs : List DO) (hm : P.follows .mixedOrders = true) (hd : dStatic l.toArray m sz.sz = true) (hl : outs.length = m) (hf : dFresh l.toArray outs s V = true) (hnd : ((vAfter outs V).map NEnt.name).Nodup)
    (hall : DAll P l.toArray outs V 0 l outs s) (k : TL P c sz Q l.toArray (l.drop m) t (sAfter l outs s) (vAfter outs V)) : TC P c sz Q (.code (.region id l.toArray true) :: t) s V := by
  intro env tm W O R hfr hst;have hd' := dStat hd;refine Gw.code (wpIn_region_any hm ?_)
  have hsz : l.toArray.size = l.length := by simp
  have inv : DInv l outs m sz.sz s V (Array.replicate l.toArray.size false) env tm V := by
    have hz : ∀ j, (Array.replicate l.toArray.size false).getD j false = false := fun j => by
      by_cases h : j < l.toArray.size <;> simp [Array.getElem?_replicate]
      all_goals (split <;> rfl)
    refine ⟨by simp, fun i o _ h => ?_, fun i _ => hz i, hfr.1, fun t a ht _ => hfr.2 t a ht, fun j o d _ _ h => ?_, fun x => ?_⟩
    · rw [hz] at h; cases h
    · rw [hz] at h; cases h
    · constructor
      · exact fun h => ⟨.inl h, fun r d _ h => by rw [hz] at h; cases h⟩
      · rintro ⟨h | ⟨j, d, _, h, _⟩, _⟩
        · exact h
        · rw [hz] at h; cases h
  have hst' : St c env V { W with drawn := W.drawn + 1 } O R := ⟨⟨hst.keep.os, hst.keep.tape, hst.keep.output, hst.keep.size, hst.keep.block⟩, fun x hx => NEnt.holds_keep (W := W) (fun _ _ => rfl) (fun b hb => ⟨hb, rfl⟩) (hst.holds x hx), hst.own, hst.apart, hst.ro, hst.r0, hst.names⟩;have hcnt : cnt (Array.replicate l.toArray.size false) m = m := by
    clear hall k hf hnd hd hd' inv hl
    induction m with
    | zero => rfl
    | succ m ih =>
      simp only [cnt, ih];have : (Array.replicate l.toArray.size false).getD m false = false := by
        by_cases h : m < l.toArray.size <;> simp [Array.getElem?_replicate]
        all_goals (split <;> rfl)
      rw [this]; rfl
  have := draw_any hd' hl hf hall hnd k m _ env tm V _ O R inv hst' hcnt;rw [show m + (l.length - m) = l.toArray.size by have := hd'.le; simp; omega] at this;exact this
end
end Go.Proofs.Ythgbjhglhejalaa.Sy
end
section
set_option linter.unusedSimpArgs false
set_option linter.unusedVariables false
namespace Go.Proofs.Ythgbjhglhejalaa.Sy
open Go.RowKit
theorem FC.at {P : Program} {f : Nat} {args : List AV} {need news : List NEnt} {v : AV} (p q : Nat → Nat) (h : FC P f args need v news) (hq : (news.map fun x => q x.name).Nodup) (hcl : closedN v news = true) :
    FC P f (AV.renL p args) (need.map (NEnt.ren p)) (v.ren q) (news.map (NEnt.ren q)) := by
  classical
  intro env w0 R0 hn hR;rw [AV.denL_ren];refine (h (fun n => env (p n)) w0 R0 (fun x hx => ?_) hR).mono ?_
  · have := hn (x.ren p) (List.mem_map.2 ⟨x, hx, rfl⟩);rw [NEnt.holds_ren] at this; exact this
  rintro e W' ⟨u, he, env', O', R', h1, h2, hst⟩
  have hcl' : ∀ n, (n ∈ v.ns ∨ ∃ x ∈ news, n ∈ x.ns) → ∃ x ∈ news, x.name = n := by
    intro n hn;have := List.all_eq_true.1 hcl n (by rw [List.mem_append, List.mem_flatMap]; exact hn)
    simpa [List.mem_map] using this
  have hinj := nodup_map_name hq
  let inv : Nat → Nat := fun k => if h : ∃ x ∈ news, q x.name = k then (Classical.choose h).name else k
  have hinv : ∀ x ∈ news, inv (q x.name) = x.name := by
    intro x hx;have hex : ∃ y ∈ news, q y.name = q x.name := ⟨x, hx, rfl⟩;simp only [inv, hex, dif_pos];obtain ⟨g1, g2⟩ := Classical.choose_spec hex
    cases Classical.em ((Classical.choose hex).name = x.name) with
    | inl e => exact e
    | inr e => exact absurd g2 (hinj _ g1 x hx e)
  let env2 : Env := fun k => if ∃ x ∈ news, q x.name = k then env' (inv k) else env k
  have henv2 : ∀ n, (n ∈ v.ns ∨ ∃ x ∈ news, n ∈ x.ns) → env2 (q n) = env' n := by
    intro n hn;obtain ⟨x, hx, rfl⟩ := hcl' n hn;have hex : ∃ y ∈ news, q y.name = q x.name := ⟨x, hx, rfl⟩;simp only [env2, hex, if_true, hinv x hx]
  refine ⟨u, he, env2, fun k => O' (inv k), R', fun n hn => ?_, ?_, hst.keep, fun y hy => ?_, fun y hy b hb => ?_, fun y hy z hz hne b hb => ?_, hst.ro, hst.r0, ?_⟩
  · have : ¬ ∃ x ∈ news, q x.name = n := fun ⟨x, hx, e⟩ => hn (x.ren q) (List.mem_map.2 ⟨x, hx, rfl⟩) (by rw [NEnt.name_ren]; exact e)
    simp only [env2, this, if_false]
  · rw [h2, AV.den_ren];exact AV.den_congr v fun n hn => (henv2 n (.inl (AV.has_ns v hn))).symm
  · obtain ⟨x, hx, rfl⟩ := List.mem_map.1 hy;rw [NEnt.holds_ren, NEnt.name_ren, hinv x hx];exact NEnt.holds_congr (fun n hn => (henv2 n (.inr ⟨x, hx, NEnt.has_ns hn⟩)).symm) (hst.holds x hx)
  · obtain ⟨x, hx, rfl⟩ := List.mem_map.1 hy;rw [NEnt.name_ren, hinv x hx] at hb;exact hst.own x hx b hb
  · obtain ⟨x, hx, rfl⟩ := List.mem_map.1 hy;obtain ⟨x2, hx2, rfl⟩ := List.mem_map.1 hz;rw [NEnt.name_ren, hinv x hx, NEnt.name_ren, hinv x2 hx2] at hb;rw [NEnt.name_ren, NEnt.name_ren] at hne;exact hst.apart x hx x2 hx2 (fun e => hne (by rw [e])) b hb
  · rw [List.map_map];have : (NEnt.name ∘ NEnt.ren q) = fun x => q x.name := by funext x; exact NEnt.name_ren q x
    rw [this]; exact hq
section
variable {P : Program} {c : Ctx} {sz : Fm} {Q : Exit → Act → World → Prop} {t : List Item} {s : List (Nat × AV)} {V : List NEnt} {ops : Array Oper} {rest : List Oper} {o : Oper}
theorem op0 {v : AV} {news : List NEnt} {d : Nat} (hs : OpSpec P o (rho s) [] v news) (hd : o.dst = some d) (hw : Wanted ops s o) (hlt : Nat.blt d sz.sz = true) (hf : freshN news s V = true)
    (k : TL P c sz Q ops rest t ((d, v) :: s) (news ++ V)) : TL P c sz Q ops (o :: rest) t s V :=
  TL.op [] hs hd hw (by simpa [Nat.blt_eq] using hlt) (by simp) hf k
theorem op1 {v : AV} {news : List NEnt} {d : Nat} {y : NEnt} (i : Nat) (hy : V[i]? = some y) (hs : OpSpec P o (rho s) [y] v news) (hd : o.dst = some d) (hw : Wanted ops s o) (hlt : Nat.blt d sz.sz = true) (hf : freshN news s V = true)
    (k : TL P c sz Q ops rest t ((d, v) :: s) (news ++ V)) : TL P c sz Q ops (o :: rest) t s V :=
  TL.op [y] hs hd hw (by simpa [Nat.blt_eq] using hlt) (fun x hx => by rw [List.mem_singleton] at hx; subst hx; exact mem_at i hy) hf k
def At (V : List NEnt) : List Nat → List NEnt → Prop
  | [], [] => True
  | i :: is, x :: xs => V[i]? = some x ∧ At V is xs
  | _, _ => False
theorem At.mem {V : List NEnt} : ∀ {is : List Nat} {xs : List NEnt}, At V is xs → ∀ x ∈ xs, x ∈ V := by
  intro is
  induction is with
  | nil => intro xs h; cases xs with
    | nil => simp
    | cons x xs => exact h.elim
  | cons i is ih => intro xs h; cases xs with
    | nil => exact h.elim
    | cons y ys =>
      intro x hx;rcases List.mem_cons.1 hx with rfl | hx
      · exact mem_at i h.1
      · exact ih h.2 x hx
theorem opN {v : AV} {news need : List NEnt} {d : Nat} (is : List Nat) (hy : At V is need) (hs : OpSpec P o (rho s) need v news) (hd : o.dst = some d) (hw : Wanted ops s o) (hlt : Nat.blt d sz.sz = true) (hf : freshN news s V = true)
    (k : TL P c sz Q ops rest t ((d, v) :: s) (news ++ V)) : TL P c sz Q ops (o :: rest) t s V :=
  TL.op need hs hd hw (by simpa [Nat.blt_eq] using hlt) hy.mem hf k
theorem opSkip {d : Nat} (hd : o.dst = some d) (hw : Unwanted ops s o) (hlt : Nat.blt d sz.sz = true) (k : TL P c sz Q ops rest t ((d, .val undef) :: s) V) : TL P c sz Q ops (o :: rest) t s V :=
  TL.skipG hd hw (by simpa [Nat.blt_eq] using hlt) k
theorem TC.condT {o : Operand} {x y : Code} (hc : rho s o = some (.val (.bool true))) (h : TC P c sz Q (.code x :: t) s V) : TC P c sz Q (.code (.cond o x y) :: t) s V :=
  TC.cond hc (fun _ => h) (fun h => by cases h)
theorem TC.condF {o : Operand} {x y : Code} (hc : rho s o = some (.val (.bool false))) (h : TC P c sz Q (.code y :: t) s V) : TC P c sz Q (.code (.cond o x y) :: t) s V :=
  TC.cond hc (fun h => by cases h) (fun _ => h)
theorem DAll.op' {outs : List DO} {i : Nat} {l : List Oper} {d : DO} {ds : List DO} (hs : OpSpec P o (rho s) d.need d.v d.news) (hw : Wanted ops s o) (ht : d.take = []) (hn : ∀ x ∈ d.need, NeedOk ops outs V i x) (h : DAll P ops outs V (i + 1) l ds (putS o d.v s)) : DAll P ops outs V i (o :: l) (d :: ds) s :=
  .op hw (by rw [ht]; exact hs.t) (by rw [ht]; simp) hn h
theorem DAll.opT {outs : List DO} {i : Nat} {l : List Oper} {d : DO} {ds : List DO} (hs : TSpec P o (rho s) d.take d.need d.v d.news) (hw : Wanted ops s o) (ht : ∀ x ∈ d.take, NeedOk ops outs V i x) (hn : ∀ x ∈ d.need, NeedOk ops outs V i x) (h : DAll P ops outs V (i + 1) l ds (putS o d.v s)) : DAll P ops outs V i (o :: l) (d :: ds) s :=
  .op hw hs ht hn h
end
def From (ops : Array Oper) (outs : List DO) (V : List NEnt) (i : Nat) : List (Option Nat × Nat) → List NEnt → Prop
  | [], [] => True
  | (none, k) :: ps, x :: xs => (V[k]? = some x ∧ delOk ops outs i none x.name = true) ∧ From ops outs V i ps xs
  | (some j, k) :: ps, x :: xs => (∃ d, outs[j]? = some d ∧ anc ops ops.size i j = true ∧ d.news[k]? = some x ∧ delOk ops outs i (some j) x.name = true) ∧ From ops outs V i ps xs
  | _, _ => False
theorem From.ok {ops : Array Oper} {outs : List DO} {V : List NEnt} {i : Nat} : ∀ {ps : List (Option Nat × Nat)} {xs : List NEnt}, From ops outs V i ps xs → ∀ x ∈ xs, NeedOk ops outs V i x := by
  intro ps
  induction ps with
  | nil => intro xs h; cases xs with
    | nil => simp
    | cons x xs => exact h.elim
  | cons p ps ih =>
    intro xs h;obtain ⟨j, k⟩ := p
    cases xs with
    | nil => cases j <;> exact h.elim
    | cons y ys =>
      intro x hx
      cases j with
      | none =>
        rcases List.mem_cons.1 hx with rfl | hx
        · exact .inl ⟨mem_at k h.1.1, h.1.2⟩
        · exact ih h.2 x hx
      | some j =>
        rcases List.mem_cons.1 hx with rfl | hx
        · obtain ⟨d, h1, h2, h3, h4⟩ := h.1;exact .inr ⟨j, d, h1, h2, mem_at k h3, h4⟩
        · exact ih h.2 x hx
def chk {α : Type} (b : Bool) (k : Option α) : Option α := cond b k none
theorem chk_inv {α : Type} {b : Bool} {k : Option α} {r : α} (h : chk b k = some r) : b = true ∧ k = some r := by
  cases b
  · cases h
  · exact ⟨rfl, h⟩
def idx {α β : Type} (xs : List α) (i : Int) (k : α → Option β) : Option β := chk (decide (0 ≤ i)) (xs[i.toNat]?.bind k)
theorem idx_inv {α β : Type} {xs : List α} {i : Int} {k : α → Option β} {r : β} (h : idx xs i k = some r) : ∃ x, decide (0 ≤ i) = true ∧ xs[i.toNat]? = some x ∧ k x = some r := by
  obtain ⟨h1, h2⟩ := chk_inv h;obtain ⟨x, h3, h4⟩ := Option.bind_eq_some_iff.1 h2;exact ⟨x, h1, h3, h4⟩
theorem bind_inv {α β : Type} {e : Option α} {k : α → Option β} {r : β} (h : e.bind k = some r) : ∃ x, e = some x ∧ k x = some r := Option.bind_eq_some_iff.1 h
theorem cond_t {α : Type} {b : Bool} {x y : Option α} {r : α} (h : cond b x y = some r) (hb : b = true) : x = some r := by subst hb; exact h
theorem cond_f {α : Type} {b : Bool} {x y : Option α} {r : α} (h : cond b x y = some r) (hb : b = false) : y = some r := by subst hb; exact h
theorem map_get {α β : Type} {xs : List α} {i : Nat} {x : α} (f : α → β) (h : xs[i]? = some x) : (xs.map f)[i]? = some (f x) := by simp [h]
theorem map_app {α β : Type} (xs ys : List α) (f : α → β) : xs.map f ++ ys.map f = (xs ++ ys).map f := List.map_append.symm
theorem map_cut {α β : Type} (xs : List α) (f : α → β) (l h : Nat) : ((xs.map f).take h).drop l = ((xs.take h).drop l).map f := by simp [List.map_take, List.map_drop]
theorem map_set {α β : Type} (xs : List α) (f : α → β) (i : Nat) (x : α) : (xs.map f).set i (f x) = (xs.set i x).map f := by simp [List.map_set]
theorem len_map {α β : Type} (xs : List α) (f : α → β) : (xs.map f).length = xs.length := List.length_map ..
def sub : Code → List Nat → Code
  | c, [] => c
  | .seq a b, i :: p => if i = 0 then sub a p else sub b p
  | .cond _ a b, i :: p => if i = 0 then sub a p else sub b p
  | .block _ a, _ :: p => sub a p
  | .loop a, _ :: p => sub a p
  | .scope a, _ :: p => sub a p
  | .rangeFunc _ _ a b, i :: p => if i = 0 then sub a p else sub b p
  | c, _ => c
def bodyOf (f : Func) : Code := f.body.getD .skip
end Go.Proofs.Ythgbjhglhejalaa.Sy
end
