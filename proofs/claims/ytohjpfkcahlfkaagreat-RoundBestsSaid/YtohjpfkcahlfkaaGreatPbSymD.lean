/- The small logic of symbolic states: stores and append. -/
import Derived.Test.YtohjpfkcahlfkaaGreatPbSymC
set_option linter.unusedSimpArgs false
set_option linter.unusedVariables false
namespace Go.Proofs.YtohjpfkcahlfkaaGreat.Sy
open Go.RowKit
theorem nodup_name_eq : ∀ (l : List NEnt), (l.map NEnt.name).Nodup → ∀ (i j : Nat) (a b : NEnt), l[i]? = some a → l[j]? = some b → a.name = b.name → i = j := by
  intro l hn i j a b hi hj hab
  have hi' : (l.map NEnt.name)[i]? = some a.name := by simp [hi]
  have hj' : (l.map NEnt.name)[j]? = some a.name := by simp [hj, hab]
  have hlt : i < (l.map NEnt.name).length := (List.getElem?_eq_some_iff.1 hi').1
  exact (List.getElem?_inj hlt hn).1 (by rw [hi', hj'])
theorem mem_set_cases {V : List NEnt} (hn : (V.map NEnt.name).Nodup) {k : Nat} {x y z : NEnt} (hk : V[k]? = some x) (hz : z ∈ V.set k y) : z = y ∨ (z ∈ V ∧ z.name ≠ x.name) := by
  obtain ⟨i, hi⟩ := List.mem_iff_getElem?.1 hz
  rw [List.getElem?_set] at hi
  split at hi
  · split at hi
    · left; simpa using hi.symm
    · cases hi
  · rename_i hne
    exact .inr ⟨List.mem_of_getElem? hi, fun e => hne (nodup_name_eq V hn k i x z hk hi e.symm)⟩
theorem mem_erase_cases {V : List NEnt} (hn : (V.map NEnt.name).Nodup) {k : Nat} {x z : NEnt} (hk : V[k]? = some x) (hz : z ∈ V.eraseIdx k) : z ∈ V ∧ z.name ≠ x.name := by
  obtain ⟨i, hi⟩ := List.mem_iff_getElem?.1 hz
  rw [List.getElem?_eraseIdx] at hi
  split at hi
  · rename_i hlt; exact ⟨List.mem_of_getElem? hi, fun e => by have := nodup_name_eq V hn k i x z hk hi e.symm; omega⟩
  · rename_i hlt; exact ⟨List.mem_of_getElem? hi, fun e => by have := nodup_name_eq V hn k (i + 1) x z hk hi e.symm; omega⟩
theorem set_names {V : List NEnt} {k : Nat} {x y : NEnt} (hk : V[k]? = some x) (h : y.name = x.name) : (V.set k y).map NEnt.name = V.map NEnt.name := by
  apply List.ext_getElem?
  intro i
  simp only [List.getElem?_map, List.getElem?_set]
  split
  · rename_i e; subst e
    split
    · rw [hk]; simp [h]
    · rename_i hlt; rw [List.getElem?_eq_none (by omega)]
  · rfl
theorem St.write {c : Ctx} {env : Env} {V : List NEnt} {W W' : World} {O : Nat → Nat → Prop} {R : Nat → Prop} (h : St c env V W O R) (k : Nat) {x y : NEnt} (hk : V[k]? = some x) (hkeep : Keep (fun b => O x.name b) W W') (hyn : y.name = x.name)
    (hy : y.holds env W' (O x.name) R) : St c env (V.set k y) W' O R := by
  have hx : x ∈ V := List.mem_of_getElem? hk
  refine ⟨h.keep.trans hkeep (fun i hi ho => ?_), fun z hz => ?_, fun z hz b hb => ?_, fun z hz z2 hz2 hne b hb => ?_, fun b hb => ⟨Nat.lt_of_lt_of_le (h.ro b hb).1 hkeep.size, (h.ro b hb).2⟩, h.r0, by rw [set_names hk hyn]; exact h.names⟩
  · rcases (h.own x hx i ho).2.1 with h1 | h1
    · omega
    · exact h1
  · rcases mem_set_cases h.names hk hz with rfl | ⟨hz, hne⟩
    · rw [hyn]; exact hy
    · refine NEnt.holds_keep (fun b hb => ?_) (fun b hb => ⟨hb, ?_⟩) (h.holds z hz)
      · exact hkeep.block b (h.own z hz b hb).1 (fun ho => h.apart z hz x hx hne b ⟨hb, ho⟩)
      · exact hkeep.block b (h.ro b hb).1 (fun ho => (h.own x hx b ho).2.2 hb)
  · have : ∃ z' ∈ V, z'.name = z.name := by
      rcases mem_set_cases h.names hk hz with rfl | ⟨hz, _⟩
      · exact ⟨x, hx, hyn.symm⟩
      · exact ⟨z, hz, rfl⟩
    obtain ⟨z', hz', e⟩ := this
    rw [← e] at hb
    obtain ⟨h1, h2, h3⟩ := h.own z' hz' b hb
    exact ⟨Nat.lt_of_lt_of_le h1 hkeep.size, h2, h3⟩
  · have key : ∀ z ∈ V.set k y, ∃ z' ∈ V, z'.name = z.name := by
      intro z hz
      rcases mem_set_cases h.names hk hz with rfl | ⟨hz, _⟩
      · exact ⟨x, hx, hyn.symm⟩
      · exact ⟨z, hz, rfl⟩
    obtain ⟨z', hz', e⟩ := key z hz
    obtain ⟨z2', hz2', e2⟩ := key z2 hz2
    rw [← e, ← e2] at hb
    exact h.apart z' hz' z2' hz2' (by rw [e, e2]; exact hne) b hb
theorem St.replace {c : Ctx} {env : Env} {V : List NEnt} {W W' : World} {O : Nat → Nat → Prop} {R : Nat → Prop} (h : St c env V W O R) (k : Nat) {x y : NEnt} {v : Value} {Or : Nat → Prop} (hk : V[k]? = some x) (hkeep : Keep (fun b => O x.name b) W W')
    (hOr : ∀ b, Or b → (O x.name b ∨ W.heap.size ≤ b) ∧ b < W'.heap.size) (hf : hasV y.name V = false) (hy : y.holds (setEnv env y.name v) W' Or R) :
    ∃ O', St c (setEnv env y.name v) (y :: V.eraseIdx k) W' O' R := by
  classical
  have hx : x ∈ V := List.mem_of_getElem? hk
  have hne : ∀ z ∈ V, z.name ≠ y.name := fun z hz e => by
    have := mem_has hz (NEnt.has_name z)
    rw [e, hf] at this; cases this
  refine ⟨fun n b => if n = y.name then Or b else O n b, h.keep.trans hkeep (fun i hi ho => ?_), fun z hz => ?_, fun z hz b hb => ?_, fun z hz z2 hz2 hnn b hb => ?_,
    fun b hb => ⟨Nat.lt_of_lt_of_le (h.ro b hb).1 hkeep.size, (h.ro b hb).2⟩, h.r0, ?_⟩
  · rcases (h.own x hx i ho).2.1 with h1 | h1
    · omega
    · exact h1
  · rcases List.mem_cons.1 hz with rfl | hz
    · simpa using hy
    · obtain ⟨hz, hzx⟩ := mem_erase_cases h.names hk hz
      simp only [hne z hz, if_false]
      refine NEnt.holds_congr (fun n hn => (setEnv_other fun e => by subst e; rw [mem_has hz hn] at hf; cases hf).symm) (NEnt.holds_keep (fun b hb => ?_) (fun b hb => ⟨hb, ?_⟩) (h.holds z hz))
      · exact hkeep.block b (h.own z hz b hb).1 (fun ho => h.apart z hz x hx hzx b ⟨hb, ho⟩)
      · exact hkeep.block b (h.ro b hb).1 (fun ho => (h.own x hx b ho).2.2 hb)
  · rcases List.mem_cons.1 hz with rfl | hz
    · simp only [if_true] at hb
      obtain ⟨h1, h2⟩ := hOr b hb
      refine ⟨h2, ?_, ?_⟩
      · rcases h1 with h1 | h1
        · exact (h.own x hx b h1).2.1
        · exact .inl (Nat.le_trans h.keep.size h1)
      · intro hr
        rcases h1 with h1 | h1
        · exact (h.own x hx b h1).2.2 hr
        · have := (h.ro b hr).1; omega
    · obtain ⟨hz, _⟩ := mem_erase_cases h.names hk hz
      simp only [hne z hz, if_false] at hb
      obtain ⟨h1, h2, h3⟩ := h.own z hz b hb
      exact ⟨Nat.lt_of_lt_of_le h1 hkeep.size, h2, h3⟩
  · have key : ∀ z ∈ V, z.name ≠ x.name → ∀ b, O z.name b → Or b → False := by
      intro z hz hzx b hb ho
      rcases (hOr b ho).1 with h1 | h1
      · exact h.apart z hz x hx hzx b ⟨hb, h1⟩
      · have := (h.own z hz b hb).1; omega
    rcases List.mem_cons.1 hz with e1 | h1 <;> rcases List.mem_cons.1 hz2 with e2 | h2
    · exact hnn (by rw [e1, e2])
    · obtain ⟨hm2, hx2⟩ := mem_erase_cases h.names hk h2
      simp only [e1, if_true, hne z2 hm2, if_false] at hb
      exact key z2 hm2 hx2 b hb.2 hb.1
    · obtain ⟨hm1, hx1⟩ := mem_erase_cases h.names hk h1
      simp only [e2, if_true, hne z hm1, if_false] at hb
      exact key z hm1 hx1 b hb.1 hb.2
    · obtain ⟨hm1, _⟩ := mem_erase_cases h.names hk h1
      obtain ⟨hm2, _⟩ := mem_erase_cases h.names hk h2
      simp only [hne z hm1, hne z2 hm2, if_false] at hb
      exact h.apart z hm1 z2 hm2 hnn b hb
  · simp only [List.map_cons, List.nodup_cons]
    refine ⟨fun hm => ?_, ?_⟩
    · obtain ⟨z, hz, e⟩ := List.mem_map.1 hm
      exact hne z (mem_erase_cases h.names hk hz).1 e
    · exact h.names.sublist ((List.eraseIdx_sublist V k).map NEnt.name)
theorem take_splice {α : Type} (l : List α) (N k : Nat) (v : List α) (h : k + v.length ≤ N) (hN : N ≤ l.length) :
    (l.take k ++ v ++ l.drop (k + v.length)).take N = (l.take N).take k ++ v ++ (l.take N).drop (k + v.length) := by
  have h1 : min k l.length = k := by omega
  have h2 : min N k = k := by omega
  have h3 : min k N = k := by omega
  rw [List.append_assoc, List.take_append, List.take_append, List.length_take, h1, List.take_take, List.take_take, h2, h3, List.take_of_length_le (l := v) (by omega), List.drop_take, List.append_assoc]
  congr 3
  omega
theorem keep_setRow (W : World) (g : Nat) (cs : Array Value) (N : Nat → Prop) (h : N g) : Keep N W (W.setRow g cs) :=
  ⟨rfl, rfl, rfl, by simp [World.setRow], fun k hk hn => setRow_other W g k cs (fun e => hn (by rw [e]; exact h))⟩
section
variable {P : Program} {c : Ctx} {sz : Fm} {Q : Exit → Act → World → Prop} {t : List Item} {s : List (Nat × AV)} {V : List NEnt} {ops : Array Oper} {rest : List Oper} {o : Oper}
theorem coreB {ev : Operand → Value} {env : Env} {W : World} {O : Nat → Nat → Prop} {R : Nat → Prop} (hev : ∀ x a, rho s x = some a → ev x = a.den env) (hst : St c env V W O R) (k : Nat) {T n off : Nat} {x y : Operand} {cells : List AV} {T' : TypeId} {a : AV} (ho : o.op = .store T x y) (hx : rho s x = some (.ptr n off)) (hk : V[k]? = some (.blk n cells T')) (hy : rho s y = some a) (hfl : a.flat = true)
    (hT : ∀ w, (sizeOf T).run P w = .ok a.cs.length w) (hle : off + a.cs.length ≤ cells.length) : Does P ((execOp ev o).run P W) fun u W' => u = undef ∧ St c env (V.set k (.blk n (cells.take off ++ a.cs ++ cells.drop (off + a.cs.length)) T')) W' O R := by
  obtain ⟨b, h1, h2, h3⟩ := hst.holds _ (List.mem_of_getElem? hk)
  have hx' := hev _ _ hx
  have hy' := hev _ _ hy
  simp only [AV.den, h1, blockOff] at hx'
  have hcl : (a.den env).cells = (AV.denL env a.cs).toArray := AV.den_cells hfl env
  have hcs : (a.den env).cells.size = a.cs.length := by rw [hcl]; simp [denL_length]
  have hst' := run_storeCells_at P b off T' (AV.denL env a.cs) 0 (AV.denL env cells).toArray W h3 (by simp [denL_length]; omega) (denL_one (cs_all_one hfl))
  have hcur : ((AV.denL env cells).toArray.toList.take (off + 0) ++ AV.denL env a.cs ++ (AV.denL env cells).toArray.toList.drop (off + 0 + (AV.denL env a.cs).length)) = AV.denL env (cells.take off ++ a.cs ++ cells.drop (off + a.cs.length)) := by
    simp [denL_append, denL_take, denL_drop, denL_length]
  rw [hcur] at hst'
  have hrun : (execOp ev o).run P W = .ok .skip (W.setRow b (AV.denL env (cells.take off ++ a.cs ++ cells.drop (off + a.cs.length))).toArray) := by
    simp only [execOp, ho, Instr.storeAt, hx', hy', Instr.sureAddr, storeVar, Sem.run_bind, Sem.run_pure, Result.andThen_ok, hT, hcs, ne_eq, not_true, if_false]
    rw [show (a.den env).cells.toList = AV.denL env a.cs by rw [hcl]]
    simp only [hst', Result.andThen_ok, Sem.run_pure]
  rw [hrun]
  refine ⟨rfl, hst.write k hk (keep_setRow W b _ _ h2) rfl ⟨b, h1, h2, ?_⟩⟩
  exact setRow_heap W b _ _ T' (0, 0) h3
theorem TL.storeB (k : Nat) {T n off : Nat} {x y : Operand} {cells : List AV} {T' : TypeId} {a : AV} (ho : o.op = .store T x y) (hd : o.dst = none) (hw : Wanted ops s o) (hx : rho s x = some (.ptr n off)) (hk : V[k]? = some (.blk n cells T')) (hy : rho s y = some a) (hfl : a.flat = true)
    (hT : ∀ w, (sizeOf T).run P w = .ok a.cs.length w) (hle : off + a.cs.length ≤ cells.length) (h : TL P c sz Q ops rest t s (V.set k (.blk n (cells.take off ++ a.cs ++ cells.drop (off + a.cs.length)) T'))) : TL P c sz Q ops (o :: rest) t s V := by
  intro env tm W O R hfr hst
  unfold wpListIn
  rw [if_pos (wanted_of hfr hw)]
  refine ((coreB (ev := Act.eval ⟨tm, sz.df⟩) (fun x a hx => rho_eval hfr hx) hst k ho hx hk hy hfl hT hle).inn fun v W' ⟨_, hst'⟩ => ?_)
  show wpListIn _ _ P ops _ rest _ _
  rw [hd]
  exact h env tm W' O R hfr hst'
theorem els_set_get {size i : Nat} {els : List (List D)} {el' : List D} (hs : ∀ x ∈ els, x.length = size) (hel : el'.length = size) (hi : i < els.length) (h0 : 0 < size) (q : Nat) (d : D) (hq : (els.set i el').flatten[q]? = some d) :
    (∃ j, q = i * size + j ∧ j < size ∧ el'[j]? = some d) ∨ ((∀ j, j < size → q ≠ i * size + j) ∧ els.flatten[q]? = some d) := by
  have hs' : ∀ x ∈ els.set i el', x.length = size := fun x hx => by
    rcases List.mem_or_eq_of_mem_set hx with h | h
    · exact hs x h
    · rw [h]; exact hel
  have hlen : ∀ l : List (List D), (∀ x ∈ l, x.length = size) → l.flatten.length = l.length * size := by
    intro l
    induction l with
    | nil => simp
    | cons x l ih => intro hx; simp [hx x (by simp), ih (fun y hy => hx y (by simp [hy])), Nat.add_mul]; omega
  have hqlt : q < els.length * size := by
    have := (List.getElem?_eq_some_iff.1 hq).1
    rw [hlen _ hs'] at this; simpa using this
  have hdm := Nat.div_add_mod q size
  have hml := Nat.mod_lt q h0
  have hql : q / size < els.length := by
    rw [Nat.div_lt_iff_lt_mul h0]; exact hqlt
  have hqe : q = q / size * size + q % size := by rw [Nat.mul_comm]; omega
  by_cases e : q / size = i
  · left
    refine ⟨q % size, by rw [← e]; exact hqe, hml, ?_⟩
    rw [hqe, flatten_get (els.set i el') (q / size) (q % size) el' hs' (by rw [e, List.getElem?_set_self hi]) hml] at hq
    exact hq
  · right
    refine ⟨fun j hj hc => e ?_, ?_⟩
    · rw [hc, Nat.mul_comm, Nat.mul_add_div h0, Nat.div_eq_of_lt hj, Nat.add_zero]
    · have hget : els[q / size]? = some els[q / size] := by simp
      rw [hqe, flatten_get (els.set i el') (q / size) (q % size) els[q / size] hs' (by rw [List.getElem?_set_ne (Ne.symm e)]; exact hget) hml] at hq
      rw [hqe, flatten_get els (q / size) (q % size) els[q / size] hs hget hml]
      exact hq
theorem coreR {ev : Operand → Value} {env : Env} {W : World} {O : Nat → Nat → Prop} {R : Nat → Prop} (hev : ∀ x a, rho s x = some a → ev x = a.den env) (hst : St c env V W O R) (k : Nat) {T n kk i j size E : Nat} {x y : Operand} {els : List (List D)} {el ds : List D} {a : AV} {need : List NEnt} (ho : o.op = .store T x y) (hx : rho s x = some (.cell n kk)) (hk : V[k]? = some (.row n E size els))
    (hy : rho s y = some a) (hfl : a.flat = true) (hT : ∀ w, (sizeOf T).run P w = .ok a.cs.length w) (hkk : kk = i * size + j) (hi : els[i]? = some el) (hle : j + a.cs.length ≤ size) (hpos : 0 < size) (hneed : ∀ x ∈ need, x ∈ V) (had : ADL need a.cs ds) :
    Does P ((execOp ev o).run P W) fun u W' => u = undef ∧ St c env (V.set k (.row n E size (els.set i (el.take j ++ ds ++ el.drop (j + ds.length))))) W' O R := by
  have hxm : NEnt.row n E size els ∈ V := List.mem_of_getElem? hk
  obtain ⟨hs, cells, hown, hob, hcd⟩ := hst.holds _ hxm
  obtain ⟨hadl, hadk⟩ := had.ok (O := O) (R := R) (W := W) (env := env) (fun x hx => hst.holds x (hneed x hx))
  have hilt : i < els.length := (List.getElem?_eq_some_iff.1 hi).1
  have hel : el.length = size := hs el (List.mem_of_getElem? hi)
  rcases hown.2 with ⟨hv, hn0⟩ | ⟨g, cap, cur, hv, _, hg, hnc, hcm, hcs, htk⟩
  · omega
  have hOg : O n g := hob g (by rw [hv]; rfl)
  have hcl : (a.den env).cells = (AV.denL env a.cs).toArray := AV.den_cells hfl env
  have hcz : (a.den env).cells.size = a.cs.length := by rw [hcl]; simp [denL_length]
  have hbound : kk + a.cs.length ≤ els.length * size := by
    have : (i + 1) * size ≤ els.length * size := Nat.mul_le_mul_right _ hilt
    rw [Nat.add_mul] at this; omega
  have hcap : els.length * size ≤ cap * size := Nat.mul_le_mul_right _ hnc
  have hone := denL_one (e := env) (cs_all_one hfl)
  have hst' := run_storeCells_at P g kk E (AV.denL env a.cs) 0 cur W hg (by rw [denL_length]; omega) hone
  have hx' := hev _ _ hx
  have hy' := hev _ _ hy
  simp only [AV.den, cellAt_eq hv, Nat.zero_add] at hx'
  have hrun : (execOp ev o).run P W = .ok .skip (W.setRow g (cur.toList.take (kk + 0) ++ AV.denL env a.cs ++ cur.toList.drop (kk + 0 + (AV.denL env a.cs).length)).toArray) := by
    simp only [execOp, ho, Instr.storeAt, hx', hy', Instr.sureAddr, storeVar, Sem.run_bind, Sem.run_pure, Result.andThen_ok, hT, hcz, ne_eq, not_true, if_false]
    rw [show (a.den env).cells.toList = AV.denL env a.cs by rw [hcl]]
    simp only [hst', Result.andThen_ok, Sem.run_pure]
  rw [hrun]
  have hel' : (el.take j ++ ds ++ el.drop (j + ds.length)).length = size := by
    simp only [List.length_append, List.length_take, List.length_drop]; omega
  refine ⟨rfl, hst.write k hk (keep_setRow W g _ _ hOg) rfl ?_⟩
  refine ⟨fun e he => ?_, (cells.take kk ++ AV.denL env a.cs ++ cells.drop (kk + a.cs.length)), ⟨?_, .inr ⟨g, cap, _, by rw [hv]; simp, Nat.zero_le _, setRow_heap W g _ _ E (0, 0) hg, by simpa using hnc, hcm, ?_, ?_⟩⟩, hob, fun q d hq => ?_⟩
  · rcases List.mem_or_eq_of_mem_set he with h | h
    · exact hs e h
    · rw [h]; exact hel'
  · have := hown.1
    simp only [List.length_append, List.length_take, List.length_drop, denL_length, List.length_set]; omega
  · simp only [List.size_toArray, List.length_append, List.length_take, List.length_drop, denL_length, Array.length_toList]; omega
  · have hcl2 : cells.length = els.length * size := hown.1
    rw [← htk]
    simp only [Nat.add_zero, denL_length, List.length_set]
    have hts := take_splice cur.toList (els.length * size) kk (AV.denL env a.cs) (by rw [denL_length]; omega) (by have := Array.length_toList (xs := cur); omega)
    rw [denL_length] at hts
    exact hts
  · rcases els_set_get hs hel' hilt hpos q d hq with ⟨j', rfl, hj', hd'⟩ | ⟨hno, hd'⟩
    · -- inside the element
      rcases Nat.lt_or_ge j' j with hlt | hge
      · rw [List.append_assoc, List.getElem?_append_left (by simp; omega), List.getElem?_take_of_lt hlt] at hd'
        have hf := flatten_get els i j' el hs hi hj'
        obtain ⟨u, hu, hok, h1⟩ := hcd (i * size + j') d (by rw [hf]; exact hd')
        refine ⟨u, ?_, d.mono W _ R R (fun b hb => ⟨hb, setRow_other W g b _ (fun e => ?_)⟩) u hok, h1⟩
        · rw [List.append_assoc, List.getElem?_append_left (by simp [hown.1]; omega), List.getElem?_take_of_lt (by omega)]; exact hu
        · subst e; exact (hst.own _ hxm b hOg).2.2 hb
      · rcases Nat.lt_or_ge j' (j + ds.length) with hlt2 | hge2
        · rw [List.append_assoc, List.getElem?_append_right (by simp; omega), List.getElem?_append_left (by simp; omega)] at hd'
          have e1 : j' - (el.take j).length = j' - j := by simp; omega
          rw [e1] at hd'
          obtain ⟨u, hu, hok⟩ := hadk (j' - j) d hd'
          refine ⟨u, ?_, d.mono W _ R R (fun b hb => ⟨hb, setRow_other W g b _ (fun e => ?_)⟩) u hok, hone u (List.mem_of_getElem? hu)⟩
          · rw [List.append_assoc, List.getElem?_append_right (by simp; omega), List.getElem?_append_left (by simp [denL_length, hown.1]; omega)]
            have e2 : i * size + j' - (cells.take kk).length = j' - j := by simp [hown.1]; omega
            rw [e2]; exact hu
          · subst e; exact (hst.own _ hxm b hOg).2.2 hb
        · rw [List.getElem?_append_right (by simp; omega), List.getElem?_drop] at hd'
          have e1 : j + ds.length + (j' - (el.take j ++ ds).length) = j' := by simp; omega
          rw [e1] at hd'
          have hf := flatten_get els i j' el hs hi hj'
          obtain ⟨u, hu, hok, h1⟩ := hcd (i * size + j') d (by rw [hf]; exact hd')
          refine ⟨u, ?_, d.mono W _ R R (fun b hb => ⟨hb, setRow_other W g b _ (fun e => ?_)⟩) u hok, h1⟩
          · rw [List.getElem?_append_right (by simp [denL_length, hown.1]; omega), List.getElem?_drop]
            have e2 : kk + a.cs.length + (i * size + j' - (cells.take kk ++ AV.denL env a.cs).length) = i * size + j' := by simp [denL_length, hown.1]; omega
            rw [e2]; exact hu
          · subst e; exact (hst.own _ hxm b hOg).2.2 hb
    · obtain ⟨u, hu, hok, h1⟩ := hcd q d hd'
      have hqlt : q < cells.length := (List.getElem?_eq_some_iff.1 hu).1
      refine ⟨u, ?_, d.mono W _ R R (fun b hb => ⟨hb, setRow_other W g b _ (fun e => ?_)⟩) u hok, h1⟩
      · rcases Nat.lt_or_ge q kk with hlt | hge
        · rw [List.append_assoc, List.getElem?_append_left (by simp [hown.1]; omega), List.getElem?_take_of_lt hlt]; exact hu
        · have : kk + a.cs.length ≤ q := by
            rcases Nat.lt_or_ge q (kk + a.cs.length) with hlt | h
            · exact absurd (show q = i * size + (q - i * size) by omega) (hno (q - i * size) (by omega))
            · exact h
          rw [List.getElem?_append_right (by simp [denL_length, hown.1]; omega), List.getElem?_drop]
          have e2 : kk + a.cs.length + (q - (cells.take kk ++ AV.denL env a.cs).length) = q := by simp [denL_length, hown.1]; omega
          rw [e2]; exact hu
      · subst e; exact (hst.own _ hxm b hOg).2.2 hb
theorem TL.storeR (k : Nat) {T n kk i j size E : Nat} {x y : Operand} {els : List (List D)} {el ds : List D} {a : AV} {need : List NEnt} (ho : o.op = .store T x y) (hd : o.dst = none) (hw : Wanted ops s o) (hx : rho s x = some (.cell n kk)) (hk : V[k]? = some (.row n E size els))
    (hy : rho s y = some a) (hfl : a.flat = true) (hT : ∀ w, (sizeOf T).run P w = .ok a.cs.length w) (hkk : kk = i * size + j) (hi : els[i]? = some el) (hle : j + a.cs.length ≤ size) (hpos : 0 < size) (hneed : ∀ x ∈ need, x ∈ V) (had : ADL need a.cs ds)
    (h : TL P c sz Q ops rest t s (V.set k (.row n E size (els.set i (el.take j ++ ds ++ el.drop (j + ds.length)))))) : TL P c sz Q ops (o :: rest) t s V := by
  intro env tm W O R hfr hst
  unfold wpListIn
  rw [if_pos (wanted_of hfr hw)]
  refine ((coreR (ev := Act.eval ⟨tm, sz.df⟩) (fun x a hx => rho_eval hfr hx) hst k ho hx hk hy hfl hT hkk hi hle hpos hneed had).inn fun v W' ⟨_, hst'⟩ => ?_)
  show wpListIn _ _ P ops _ rest _ _
  rw [hd]
  exact h env tm W' O R hfr hst'
end
end Go.Proofs.YtohjpfkcahlfkaaGreat.Sy
