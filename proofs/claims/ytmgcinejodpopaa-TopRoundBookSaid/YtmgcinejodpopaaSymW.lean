/- The small logic of symbolic states: entries of maps that are changed in two steps. -/
import Derived.Test.YtmgcinejodpopaaSymV
set_option linter.unusedSimpArgs false
set_option linter.unusedVariables false
namespace Go.Proofs.Ytmgcinejodpopaa.Sy
open Go.RowKit

section
variable {κ ν : Type} [BEq κ]
theorem mfind_put [LawfulBEq κ] (xs : List (κ × ν)) (k : κ) (v : ν) : mfind (mput xs k v) k = some ((mfind xs k).getD xs.length) := by
  induction xs with
  | nil => simp [mput_nil, mfind_cons, mfind]
  | cons x xs ih =>
    rw [mput_cons, mfind_cons]
    by_cases h : (x.1 == k) = true
    · simp [h, mfind_cons]
    · simp only [h, Bool.false_eq_true, if_false, mfind_cons, ih, Option.map_some]
      cases mfind xs k <;> simp
theorem mput_put [LawfulBEq κ] {xs : List (κ × ν)} (nd : (xs.map (·.1)).Nodup) (k : κ) (v w : ν) : (mput (mput xs k v) k w).Perm (mput xs k w) := by
  refine (mput_filter (nodup_put nd k v) k w).trans (List.Perm.trans ?_ (mput_filter nd k w).symm)
  refine List.Perm.cons _ (((mput_filter nd k v).filter _).trans ?_)
  rw [List.filter_cons]
  simp only [BEq.rfl, Bool.not_true, Bool.false_eq_true, if_false, List.filter_filter, Bool.and_self]
  exact .refl _
/-- a map, and which stamp a key's entry has, or would have, and what stands there -/
def mapU (ek : κ → Value) (ag : Bool) (ev : ν → List D) (xs : List (κ × ν)) (k : κ) (z : Value) (u : Nat) (w : Value) : Inv :=
  ⟨fun W O R v => ∃ (r cl : Nat) (es : Array MapEntry) (ys : List (κ × ν)), v = .map (some r) ∧ O r ∧ W.heap[r]? = some (.map es cl) ∧ EsOk ek ag ev W R es.toList ys ∧ MapOk es.toList cl ys xs ∧
      u = (match mfind ys k with | some i => ((es[i]?).map (·.born)).getD 0 | none => cl) ∧ w = (match mfind ys k with | some i => ((es[i]?).map (·.val)).getD undef | none => z),
   fun W W' O R R' hO hR v ⟨r, cl, es, ys, h1, h2, h3, h4, h5⟩ => ⟨r, cl, es, ys, h1, h2, (hO r h2).trans h3, h4.keep hR, h5⟩⟩
/-- a map one of whose entries is about to be changed -/
def mapV (ek : κ → Value) (ag : Bool) (ev : ν → List D) (xs : List (κ × ν)) (k : κ) (u : Nat) : Inv :=
  ⟨fun W O R v => ∃ (r cl : Nat) (es : Array MapEntry) (ys : List (κ × ν)) (d0 : ν) (i : Nat) (e : MapEntry), v = .map (some r) ∧ O r ∧ W.heap[r]? = some (.map es cl) ∧ EsOk ek ag ev W R es.toList ys ∧ MapOk es.toList cl ys (mput xs k d0) ∧ (List.map (fun x : κ × ν => x.1) xs).Nodup ∧ es.toList[i]? = some e ∧ e.born = u ∧ mfind ys k = some i ∧ e.key = ek k,
   fun W W' O R R' hO hR v ⟨r, cl, es, ys, d0, i, e, h1, h2, h3, h4, h5⟩ => ⟨r, cl, es, ys, d0, i, e, h1, h2, (hO r h2).trans h3, h4.keep hR, h5⟩⟩
end
/-- the same of one value alone -/
def Inv.at (I : Inv) (val : Value) : Inv := ⟨fun W O R v => v = val ∧ I.ok W O R v, fun W W' O R R' hO hR v h => ⟨h.1, I.keep W W' O R R' hO hR v h.2⟩⟩
/-- one entry turned into a new one -/
theorem St.step1 {c : Ctx} {env : Env} {V : List NEnt} {W W' : World} {O : Nat → Nat → Prop} {R : Nat → Prop} {x y : NEnt} {v : Value} (h : St c env V W O R) (hx : x ∈ V) (hk : Keep (fun b => O x.name b) W W') (hy : y.holds (setEnv env y.name v) W' (O x.name) R) (hf : hasV y.name V = false) :
    ∃ O2, St c (setEnv env y.name v) ([y] ++ delV [x.name] V) W' O2 R := by
  have hne : y.name ≠ x.name := fun e => by rw [e, mem_has hx (NEnt.has_name x)] at hf; cases hf
  refine h.over (take := [x]) (M1 := fun b => O x.name b) (news := [y]) (O' := fun _ b => O x.name b) (R' := R) (fun z hz => by rw [List.mem_singleton] at hz; subst hz; exact hx) (fun b hb => ⟨x, by simp, hb⟩) ⟨hk, fun z hz => ?_, fun z hz b hb => ?_, fun z hz z2 hz2 hne2 b hb => ?_, fun b hb => ⟨Nat.lt_of_lt_of_le (h.ro b hb).1 hk.size, .inr (.inl hb)⟩, fun _ h => h, by simp⟩ (fun n hn => setEnv_other (hn y (by simp) (by simpa using hne))) (fun z hz => by
      rw [List.mem_singleton] at hz; subst hz; exact .inr hf)
  · rw [List.mem_singleton] at hz; subst hz; exact hy
  · obtain ⟨q1, q2, q3⟩ := h.own _ hx b hb
    exact ⟨Nat.lt_of_lt_of_le q1 hk.size, .inr hb, q3⟩
  · rw [List.mem_singleton] at hz hz2; subst hz; subst hz2; exact absurd rfl hne2
theorem St.rename {c : Ctx} {env : Env} {V : List NEnt} {W : World} {O : Nat → Nat → Prop} {R : Nat → Prop} {k : Nat} {x y : NEnt} (h : St c env V W O R) (hk : V[k]? = some x) (hyn : y.name ∉ V.map NEnt.name) (hy : y.holds env W (O x.name) R) :
    ∃ O2, St c env (V.set k y) W O2 R := by
  classical
  have hx : x ∈ V := List.mem_of_getElem? hk
  have hne : y.name ≠ x.name := fun e => hyn (e ▸ List.mem_map.2 ⟨x, hx, rfl⟩)
  have hc : ∀ z ∈ V.set k y, z = y ∨ (z ∈ V ∧ z.name ≠ x.name ∧ z.name ≠ y.name) := fun z hz => by
    rcases mem_set_cases h.names hk hz with e | ⟨h1, h2⟩
    · exact .inl e
    · exact .inr ⟨h1, h2, fun e => hyn (e ▸ List.mem_map.2 ⟨z, h1, rfl⟩)⟩
  refine ⟨fun n b => if n = y.name then O x.name b else O n b, h.keep, fun z hz => ?_, fun z hz b hb => ?_, fun z hz z2 hz2 hn b hb => ?_, h.ro, h.r0, ?_⟩
  · rcases hc z hz with rfl | ⟨h1, h2, h3⟩
    · simp only [if_true]; exact hy
    · simp only [h3, if_false]; exact h.holds z h1
  · rcases hc z hz with rfl | ⟨h1, h2, h3⟩
    · simp only [if_true] at hb; exact h.own x hx b hb
    · simp only [h3, if_false] at hb; exact h.own z h1 b hb
  · rcases hc z hz with rfl | ⟨h1, h2, h3⟩ <;> rcases hc z2 hz2 with rfl | ⟨g1, g2, g3⟩
    · exact hn rfl
    · simp only [if_true, g3, if_false] at hb; exact h.apart x hx z2 g1 (Ne.symm g2) b hb
    · simp only [if_true, h3, if_false] at hb; exact h.apart z h1 x hx h2 b hb
    · simp only [h3, g3, if_false] at hb; exact h.apart z h1 z2 g1 hn b hb
  · have : (V.set k y).map NEnt.name = (V.map NEnt.name).set k y.name := List.map_set
    rw [this]
    have hlt := (List.getElem?_eq_some_iff.1 hk).1
    rw [List.nodup_iff_pairwise_ne, List.pairwise_iff_getElem]
    have hnd := List.pairwise_iff_getElem.1 (List.nodup_iff_pairwise_ne.1 h.names)
    have hm : ∀ i (hi : i < (V.map NEnt.name).length), (V.map NEnt.name)[i] ≠ y.name := fun i hi e => hyn (e ▸ List.getElem_mem hi)
    intro i j hi hj hij
    rw [List.length_set] at hi hj
    rw [List.getElem_set, List.getElem_set]
    split <;> split
    · omega
    · exact (hm j hj).symm
    · exact hm i hi
    · exact hnd i j hi hj hij
section
variable {P : Program} {c : Ctx} {sz : Fm} {Q : Exit → Act → World → Prop} {t : List Item} {s : List (Nat × AV)} {V : List NEnt} {o : Oper} {ops : Array Oper} {rest : List Oper}
theorem stamp_core {κ ν : Type} [BEq κ] {n : Nat} {ek : κ → Value} {ag : Bool} {ev : ν → List D} {xs : List (κ × ν)} (i g p : Nat) (k : κ) (z : Value) (hi : V[i]? = some (.inv n (mapI ek ag ev xs))) (hf : (!hasS g s && !hasV g V && !hasS p s && !hasV p V && !Nat.beq g p) = true)
    {env : Env} {tm : Array Value} {W : World} {O : Nat → Nat → Prop} {R : Nat → Prop} (hfr : Fr env sz.sz s tm) (hst : St c env V W O R) : ∃ u w val env' O', Fr env' sz.sz s tm ∧ St c env' (.pin p n val :: V.set i (.inv g ((mapU ek ag ev xs k z u w).at val))) W O' R := by
  simp only [Bool.and_eq_true, Bool.not_eq_true'] at hf
  obtain ⟨⟨⟨⟨hg1, hg2⟩, hp1⟩, hp2⟩, hgp⟩ := hf
  have hgp : g ≠ p := fun e => by subst e; rw [Nat.beq_refl] at hgp; cases hgp
  have hm := List.mem_of_getElem? hi
  obtain ⟨r, cl, es, ys, h1, h2, h3, h4, h5⟩ := hst.holds _ hm
  have hgn : g ≠ n := fun e => by subst e; have := mem_has hm (n := g) (by simp [NEnt.has]); rw [hg2] at this; cases this
  have hpn : p ≠ n := fun e => by subst e; have := mem_has hm (n := p) (by simp [NEnt.has]); rw [hp2] at this; cases this
  -- the new name stands for the map, too
  have hst1 : St c (setEnv env g (env n)) V W O R :=
    ⟨hst.keep, fun x hx => NEnt.holds_congr (fun m hm' => (setEnv_other fun e => by subst e; rw [mem_has hx hm'] at hg2; cases hg2).symm) (hst.holds x hx), hst.own, hst.apart, hst.ro, hst.r0, hst.names⟩
  have hgV : g ∉ V.map NEnt.name := fun h => by
    obtain ⟨x, hx, e⟩ := List.mem_map.1 h
    rw [mem_has hx (by rw [← e]; exact NEnt.has_name x)] at hg2; cases hg2
  obtain ⟨O2, hst2⟩ := hst1.rename (y := .inv g ((mapU ek ag ev xs k z (match mfind ys k with | some i => ((es[i]?).map (·.born)).getD 0 | none => cl) (match mfind ys k with | some i => ((es[i]?).map (·.val)).getD undef | none => z)).at (env n))) hi hgV (by
    simp only [NEnt.holds, NEnt.name, setEnv_same]
    exact ⟨rfl, r, cl, es, ys, h1, h2, h3, h4, h5, rfl, rfl⟩)
  have hpV : hasV p (V.set i (.inv g ((mapU ek ag ev xs k z (match mfind ys k with | some i => ((es[i]?).map (·.born)).getD 0 | none => cl) (match mfind ys k with | some i => ((es[i]?).map (·.val)).getD undef | none => z)).at (env n)))) = false := by
    refine hasV_false fun x hx => ?_
    rcases List.mem_or_eq_of_mem_set hx with hx | rfl
    · exact hasV_mem hp2 hx
    · simp [NEnt.has, hgp]
  have hst3 := hst2.addRo (x := .pin p n (env n)) (v := .bool false) hpV fun O => by
    simp only [NEnt.holds, NEnt.name, setEnv_other hpn, setEnv_other hgn]
  exact ⟨_, _, _, _, _, (hfr.congr fun m hm => (setEnv_other fun e => by subst e; rw [hg1] at hm; cases hm).symm).congr fun m hm => (setEnv_other fun e => by subst e; simp only [NEnt.name] at hm; rw [hp1] at hm; cases hm).symm, hst3⟩
theorem TC.stamp {κ ν : Type} [BEq κ] {n : Nat} {ek : κ → Value} {ag : Bool} {ev : ν → List D} {xs : List (κ × ν)} (i g p : Nat) (k : κ) (z : Value) (hi : V[i]? = some (.inv n (mapI ek ag ev xs))) (hf : (!hasS g s && !hasV g V && !hasS p s && !hasV p V && !Nat.beq g p) = true)
    (h : ∀ u w val, TC P c sz Q t s (.pin p n val :: V.set i (.inv g ((mapU ek ag ev xs k z u w).at val)))) : TC P c sz Q t s V :=
  fun env tm W O R hfr hst => by
    obtain ⟨u, w, val, env', O', h1, h2⟩ := stamp_core i g p k z hi hf hfr hst
    exact h u w val env' tm W O' R h1 h2
theorem TL.stamp {κ ν : Type} [BEq κ] {n : Nat} {ek : κ → Value} {ag : Bool} {ev : ν → List D} {xs : List (κ × ν)} (i g p : Nat) (k : κ) (z : Value) (hi : V[i]? = some (.inv n (mapI ek ag ev xs))) (hf : (!hasS g s && !hasV g V && !hasS p s && !hasV p V && !Nat.beq g p) = true)
    (h : ∀ u w val, TL P c sz Q ops rest t s (.pin p n val :: V.set i (.inv g ((mapU ek ag ev xs k z u w).at val)))) : TL P c sz Q ops rest t s V :=
  fun env tm W O R hfr hst => by
    obtain ⟨u, w, val, env', O', h1, h2⟩ := stamp_core i g p k z hi hf hfr hst
    exact h u w val env' tm W O' R h1 h2
/-- the map under its own name again -/
theorem TL.unstamp {n g p : Nat} {I : Inv} {val : Value} (i j : Nat) (hi : V[i]? = some (.inv g (I.at val))) (hj : V[j]? = some (.pin p n val)) (hn : ((V.map NEnt.name).contains n) = false)
    (h : TL P c sz Q ops rest t s (V.set i (.inv n I))) : TL P c sz Q ops rest t s V :=
  fun env tm W O R hfr hst => by
    have hv := hst.holds _ (List.mem_of_getElem? hi)
    have hp : env n = val := hst.holds _ (List.mem_of_getElem? hj)
    obtain ⟨O2, h2⟩ := hst.rename (y := .inv n I) hi (fun h => by have h := List.contains_iff_mem.2 (show n ∈ V.map NEnt.name from h); rw [hn] at h; cases h) (by
      simp only [NEnt.holds, NEnt.name] at hv ⊢
      rw [hp, ← hv.1]; exact hv.2)
    exact h env tm W O2 R hfr h2
theorem ts_mapEntry {κ ν : Type} [BEq κ] [LawfulBEq κ] {M K V n g p u : Nat} (g2 : Nat) {val : Value} {x i : Operand} {ek : κ → Value} {ag : Bool} {ev : ν → List D} {xs : List (κ × ν)} {k : κ} {ka : AV} {z w : Value} (dz : ν) (ho : o.op = .mapEntry M x i) (hx : rho s x = some (.ref n)) (hi : rho s i = some ka) (hka : ∀ e, ka.den e = ek k)
    (hk : MKey P M K V ek) (hz : ∀ w, (zeroValue V).run P w = .ok z w) (hzo : ∀ W R, VOk ag (ev dz) W R z) (hgg : (g2 == g) = false) :
    TSpec P o (rho s) [.inv g ((mapU ek ag ev xs k z u w).at val)] [.pin p n val] (.tup [.val w, .val (.int .i64 (u : Int))]) [.inv g2 ((mapV ek ag ev xs k u).at val)] := by
  intro evl c env W0 W O R he hst ht hnd hnn
  have hpin : env n = val := hst.holds _ (hnd _ (List.mem_singleton.2 rfl))
  have hvo : ∀ (Z : Prop), (hasV g2 W0 = false → Z) → (g2 = g → Z) → Z := fun Z h1 h2 => by
    rcases hnn _ (List.mem_singleton.2 rfl) with h | h
    · exact h2 (by simpa [NEnt.name] using h)
    · exact h1 h
  refine hvo _ (fun hg2 => ?_) (fun e => absurd e (by simpa using hgg))
  have hm := ht _ (List.mem_singleton.2 rfl)
  obtain ⟨kk, hkk⟩ := List.mem_iff_getElem?.1 hm
  obtain ⟨hgv, r, cl, es, ys, h1, hOr, h2, h3, ⟨hp, hnd', hb⟩, hu, hw⟩ := hst.holds _ hm
  have hmv : val = .map (some r) := by rw [← hgv]; exact h1
  have hx' := he x _ hx
  simp only [AV.den, hpin, hmv, oneOf] at hx'
  have hi' := he i _ hi
  rw [hka] at hi'
  have hf := hk.find k es.toList (ys.map (·.1)) W h3.keys
  have hR' : ∀ b, R b → b ≠ r := fun b hb e => (hst.own _ hm r hOr).2.2 (e ▸ hb)
  have hlt : r < W.heap.size := (Array.getElem?_eq_some_iff.1 h2).1
  have hxn := (hp.map (·.1)).nodup_iff.1 hnd'
  have key : ∀ (es' : Array MapEntry) (cl' : Nat) (d0 : ν) (i : Nat) (e : MapEntry), EsOk ek ag ev W R es'.toList (mput ys k d0) → BornOk es'.toList cl' → es'.toList[i]? = some e → e.born = u → mfind (mput ys k d0) k = some i → e.key = ek k →
      ∃ O2, St c (setEnv env g2 val) ([.inv g2 ((mapV ek ag ev xs k u).at val)] ++ delV [g] W0) (W.putObj r (.map es' cl')) O2 R := by
    intro es' cl' d0 i e hes hbo q1 q2 q3 q4
    refine hst.step1 (y := .inv g2 ((mapV ek ag ev xs k u).at val)) (v := val) hm ⟨rfl, rfl, rfl, by simp, fun b _ hb => World.putObj_heap_other fun e => hb (by subst e; exact hOr)⟩ ?_ hg2
    simp only [NEnt.holds, NEnt.name, setEnv_same]
    exact ⟨rfl, r, cl', es', _, d0, i, e, hmv, hOr, World.putObj_heap_same hlt, hes.keep fun b hb => ⟨hb, World.putObj_heap_other (hR' b hb)⟩, ⟨mput_perm hp hnd' k d0, nodup_put hnd' k d0, hbo⟩, hxn, q1, q2, q3, q4⟩
  have henv : ∀ q, (∀ y ∈ [NEnt.inv g2 ((mapV ek ag ev xs k u).at val)], y.name ∉ [NEnt.inv g ((mapU ek ag ev xs k z u w).at val)].map NEnt.name → y.name ≠ q) → setEnv env g2 val q = env q := fun q hq =>
    setEnv_other (hq _ (List.mem_singleton.2 rfl) (by simpa [NEnt.name] using hgg))
  cases hfi : (ys.map (·.1)).findIdx? (· == k) with
  | none =>
    have hmf : mfind ys k = none := hfi
    rw [hfi] at hf
    rw [hmf] at hu hw
    simp only at hu hw
    have hrun : (execOp evl o).run P W = .ok (.value (.tuple #[z, .int .i64 (cl : Int)])) (W.putObj r (.map (es.push { key := ek k, val := z, born := cl }) (cl + 1))) := by
      simp only [execOp, ho, Instr.mapEntry, hx', hi', Sem.run_bind, run_underlying hk.under, Result.andThen_ok, getObj_map h2, hk.check, hf, Option.bind_none, hz, setObj_map _ h2, Sem.run_pure, goInt]
    rw [hrun]
    suffices hs : ∃ O2, St c (setEnv env g2 val) ([.inv g2 ((mapV ek ag ev xs k u).at val)] ++ delV [g] W0) (W.putObj r (.map (es.push { key := ek k, val := z, born := cl }) (cl + 1))) O2 R by
      obtain ⟨O2, h⟩ := hs
      exact ⟨_, O2, R, henv, by simp [AV.den, AV.denL, hu, hw], h⟩
    refine key _ _ dz ys.length { key := ek k, val := z, born := cl } ?_ ?_ ?_ hu.symm ?_ rfl
    · simp only [mput, hmf, Array.toList_push]
      exact h3.snoc rfl (hzo W R)
    · rw [Array.toList_push]; exact hb.push rfl
    · rw [Array.toList_push, ← h3.len]; simp
    · rw [mfind_put, hmf]; rfl
  | some j =>
    have hmf : mfind ys k = some j := hfi
    have hjl : j < ys.length := by have := (List.findIdx?_eq_some_iff_getElem.1 hfi).1; simpa using this
    obtain ⟨e, hej, hek, hev⟩ := h3.at (i := j) (x := ys[j]) (by simp [hjl])
    rw [hfi] at hf
    simp only [Option.bind_some, hej, Option.map_some] at hf
    have hke : e.key = ek k := by rw [hek]; exact hk.eq _ k j _ hfi (by simp [hjl])
    have hej' : es[j]? = some e := by simpa using hej
    rw [hmf] at hu hw
    simp only [hej', Option.map_some, Option.getD_some] at hu hw
    have hrun : (execOp evl o).run P W = .ok (.value (.tuple #[e.val, .int .i64 (e.born : Int)])) (W.putObj r (.map (es.modify j fun e => { e with key := ek k }) cl)) := by
      simp only [execOp, ho, Instr.mapEntry, hx', hi', Sem.run_bind, run_underlying hk.under, Result.andThen_ok, getObj_map h2, hk.check, hf, hej', Option.map_some, Option.getD_some, hke, hk.stay, setObj_map _ h2, Sem.run_pure, goInt]
    rw [hrun]
    have hl : (es.modify j fun e => { e with key := ek k }).toList = es.toList.set j { e with key := ek k } := by
      rw [Array.toList_modify]
      apply List.ext_getElem?
      intro q
      rw [List.getElem?_modify, List.getElem?_set]
      by_cases e' : j = q
      · subst e'
        have hq : j < es.toList.length := (List.getElem?_eq_some_iff.1 hej).1
        simp [hej]
        simpa using hq
      · simp [e']
    suffices hs : ∃ O2, St c (setEnv env g2 val) ([.inv g2 ((mapV ek ag ev xs k u).at val)] ++ delV [g] W0) (W.putObj r (.map (es.modify j fun e => { e with key := ek k }) cl)) O2 R by
      obtain ⟨O2, h⟩ := hs
      exact ⟨_, O2, R, henv, by simp [AV.den, AV.denL, hu, hw], h⟩
    refine key _ _ (ys[j]).2 j { e with key := ek k } ?_ ?_ ?_ hu.symm ?_ rfl
    · rw [hl]
      simp only [mput, hmf]
      exact h3.set j rfl hev
    · refine hb.same ?_
      rw [hl]
      apply List.ext_getElem?
      intro q
      rw [List.getElem?_map, List.getElem?_map, List.getElem?_set]
      by_cases e' : j = q
      · subst e'
        have hq : j < es.toList.length := (List.getElem?_eq_some_iff.1 hej).1
        simp only [if_true, if_pos hq, hej, Option.map_some]
      · simp [e']
    · rw [hl, List.getElem?_set_self (List.getElem?_eq_some_iff.1 hej).1]
    · rw [mfind_put, hmf]; rfl
theorem ts_entryStore {κ ν : Type} [BEq κ] [LawfulBEq κ] {M n g p u : Nat} (g2 : Nat) {val : Value} {x i y : Operand} {ek : κ → Value} {ag : Bool} {ev : ν → List D} {xs : List (κ × ν)} {k : κ} (d : ν) {va : AV} {ys : List (κ × ν)} {need : List NEnt} (ho : o.op = .entryStore M x i y) (hx : rho s x = some (.ref n)) (hi : rho s i = some (.val (.int .i64 (u : Int)))) (hy : rho s y = some va)
    (hfl : va.flat = true) (hag : va.isAgg = ag) (had : ADL need va.cs (ev d)) (hys : (xs.map (·.1)).Nodup → ys.Perm (mput xs k d)) (hgg : (g2 == g) = false) :
    TSpec P o (rho s) [.inv g ((mapV ek ag ev xs k u).at val)] (.pin p n val :: need) (.val undef) [.inv g2 ((mapI ek ag ev ys).at val)] := by
  intro evl c env W0 W O R he hst ht hnd0 hnn
  have hpin : env n = val := hst.holds (.pin p n val) (hnd0 _ (by simp))
  have hnd : ∀ x ∈ need, x ∈ W0 := fun x hx => hnd0 x (List.mem_cons_of_mem _ hx)
  have hg2 : hasV g2 W0 = false := by
    rcases hnn _ (List.mem_singleton.2 rfl) with h | h
    · exact absurd (show g2 = g by simpa [NEnt.name] using h) (by simpa using hgg)
    · exact h
  have hm := ht _ (List.mem_singleton.2 rfl)
  obtain ⟨kk, hkk⟩ := List.mem_iff_getElem?.1 hm
  obtain ⟨hgv, r, cl, es, zs, d0, j, e, h1, hOr, h2, h3, ⟨hp, hnd', hb⟩, hxn, g1, q2, g3, g4⟩ := hst.holds _ hm
  have hmv : val = .map (some r) := by rw [← hgv]; exact h1
  have hys' := hys hxn
  have hx' := he x _ hx
  simp only [AV.den, hpin, hmv, oneOf] at hx'
  have hi' := he i _ hi
  simp only [AV.den] at hi'
  have hy' := he y _ hy
  have hvo : VOk ag (ev d) W R (va.den env) := vok_of hfl hag had fun z hz => hst.holds z (hnd z hz)
  have hR' : ∀ b, R b → b ≠ r := fun b hb e => (hst.own _ hm r hOr).2.2 (e ▸ hb)
  have hlt : r < W.heap.size := (Array.getElem?_eq_some_iff.1 h2).1
  have hfi : es.findIdx? (fun x => (x.born : Int) == (u : Int)) = some j := by
    have := findIdx_born hb.1 g1
    rw [q2] at this
    have he : es = es.toList.toArray := by simp
    rw [he, List.findIdx?_toArray, ← this]
    congr 1
    funext x
    rw [Bool.eq_iff_iff]
    simp only [beq_iff_eq]
    omega
  have hrun : (execOp evl o).run P W = .ok .skip (W.putObj r (.map (es.modify j fun e => { e with val := va.den env }) cl)) := by
    simp only [execOp, ho, Instr.entryStore, hx', hi', hy', Sem.run_bind, asInt, asIntOf, Result.andThen_ok, getObj_map h2, Sem.run_pure, hfi, setObj_map _ h2]
  rw [hrun]
  have hl : (es.modify j fun e => { e with val := va.den env }).toList = es.toList.set j { e with val := va.den env } := by
    rw [Array.toList_modify]
    apply List.ext_getElem?
    intro q
    rw [List.getElem?_modify, List.getElem?_set]
    by_cases e' : j = q
    · subst e'
      have hq : j < es.toList.length := (List.getElem?_eq_some_iff.1 g1).1
      simp [g1]
      simpa using hq
    · simp [e']
  suffices hs : ∃ O2, St c (setEnv env g2 val) ([.inv g2 ((mapI ek ag ev ys).at val)] ++ delV [g] W0) (W.putObj r (.map (es.modify j fun e => { e with val := va.den env }) cl)) O2 R by
    obtain ⟨O2, h⟩ := hs
    exact ⟨_, O2, R, fun q hq => setEnv_other (hq _ (List.mem_singleton.2 rfl) (by simpa [NEnt.name] using hgg)), rfl, h⟩
  refine hst.step1 (y := .inv g2 ((mapI ek ag ev ys).at val)) (v := val) hm ⟨rfl, rfl, rfl, by simp, fun b _ hb => World.putObj_heap_other fun e => hb (by subst e; exact hOr)⟩ ?_ hg2
  simp only [NEnt.holds, NEnt.name, setEnv_same]
  refine ⟨rfl, r, cl, _, mput zs k d, hmv, hOr, World.putObj_heap_same hlt, ?_, ((mput_perm hp hnd' k d).trans (mput_put hxn k d0 d)).trans hys'.symm, nodup_put hnd' k d, hb.same ?_⟩
  · rw [hl]
    have : mput zs k d = zs.set j (k, d) := by simp only [mput, g3]
    rw [this]
    exact (h3.set j (e := { e with val := va.den env }) (x := (k, d)) g4 hvo).keep fun b hb => ⟨hb, World.putObj_heap_other (hR' b hb)⟩
  · rw [hl]
    apply List.ext_getElem?
    intro q
    rw [List.getElem?_map, List.getElem?_map, List.getElem?_set]
    by_cases e' : j = q
    · subst e'
      have hq : j < es.toList.length := (List.getElem?_eq_some_iff.1 g1).1
      simp only [if_true, if_pos hq, g1, Option.map_some]
    · simp [e']
end
end Go.Proofs.Ytmgcinejodpopaa.Sy
