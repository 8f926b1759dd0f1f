/- The small logic of symbolic states: append to a clipped slice, made slices, arrays at an open index. -/
import Derived.Test.YtohjpfkcahlfkaaGreatPbSymS
import Derived.Laws.OwnMore
set_option linter.unusedSimpArgs false
set_option linter.unusedVariables false
namespace Go.Proofs.YtohjpfkcahlfkaaGreat.Sy
open Go.RowKit
theorem grown_owns {W : World} {E old N : Nat} {i : TypeInfo} {z : Value} {xs news : List Value} (hzs : z.cells.size = i.size) (hlen : (xs ++ news).length = N * i.size) (ho : old < N) (hN : N ≤ maxLen) :
    (W.drew.alloc (.cells (xs.toArray ++ news.toArray ++ Builtin.zeroCells z.cells (grownCap W N old E - N)) E)).ownsRow 0 E i.size (.slice (some ⟨W.heap.size, 0, none⟩) N (grownCap W N old E)) N (xs ++ news) := by
  have hge := grownCap_ge W N old E
  have hcm : grownCap W N old E ≤ maxLen := grownCap_le_maxLen W N old E hN
  refine ⟨hlen, .inr ⟨W.heap.size, _, _, rfl, Nat.zero_le _, heap_alloc_new W.drew _, hge, hcm, ?_, ?_⟩⟩
  · rw [List.length_append] at hlen
    simp only [Array.size_append, List.size_toArray, size_zeroCells, hzs, hlen, ← Nat.add_mul]
    congr 1
    omega
  · simp only [Array.toList_append, List.append_assoc]
    rw [← List.append_assoc, ← hlen]
    exact List.take_left
section
variable {P : Program} {o : Oper} {ρ : Operand → Option AV}
theorem sp_appClip {T E size bytes n m N N2 : Nat} (r : Nat) {x y : Operand} {els els2 els3 : List (List D)} {ym : NEnt} (ho : o.op = .call { callee := .builtin .append, args := #[x, y], argTypes := #[T, T] })
    (hx : ρ x = some (.ref n)) (hy : ρ y = some (.ref m)) (hym : IsRow ym m size els2) (hT : SlT P T E size bytes) (hl1 : els.length = N) (hl2 : els2.length = N2) (hpos : Nat.blt 0 N2 = true) (hroom : room bytes (N + N2) = true) (he3 : els ++ els2 = els3) :
    OpSpec P o ρ [.any n (D.clip size els), ym] (.ref r) [.row r E size els3] := by
  subst hl1; subst hl2; subst he3
  intro ev env W O R hev hn _ hR
  have hpos' : 0 < els2.length := by simpa [Nat.blt_eq] using hpos
  simp only [room, Bool.and_eq_true, decide_eq_true_eq] at hroom
  obtain ⟨hrd, a0, n0, hv0⟩ : (D.clip size els).ok W R (env n) := hn (.any n (D.clip size els)) (by simp)
  have hrow1 : (NEnt.ro n size els).holds env W (fun _ => False) R := hrd
  obtain ⟨a1, cap1, hv1, hnone1, hs1, us1, hul1, hone1, hcell1, hok1⟩ := row_cells isRo hT.pos hrow1
  obtain ⟨a, cap, hv2, hnone, hs2, us, hul, hone, hcell, hok⟩ := row_cells hym hT.pos (hn ym (by simp))
  obtain ⟨i, z, hi, hz, hsz, hby, hzs⟩ := hT.info
  rw [hv0] at hv1
  cases hv1
  have hx' := hev _ _ hx
  have hy' := hev _ _ hy
  simp only [AV.den, hv0, oneOf] at hx'
  simp only [AV.den, hv2, oneOf] at hy'
  cases a with
  | none => have := hnone rfl; rw [this] at hpos'; simp at hpos'
  | some ad =>
    have hgrow : ∃ (g : Array Value) (cap' : Nat) (W' : World), (Builtin.append_ #[T, T] o.type #[.slice a0 els.length els.length, .slice (some ad) els2.length cap]).run P W = .ok (.slice (some ⟨W.heap.size, 0, none⟩) (els.length + els2.length) cap') W' ∧
        W'.ownsRow 0 E size (.slice (some ⟨W.heap.size, 0, none⟩) (els.length + els2.length) cap') (els.length + els2.length) (us1 ++ us) ∧ Keep (fun _ => False) W W' := by
      cases a0 with
      | none =>
        have hels : els = [] := hnone1 rfl
        subst hels
        have hus1 : us1 = [] := List.eq_nil_of_length_eq_zero (by simpa using hul1)
        subst hus1
        obtain ⟨v', W', h1, h2, h3, _⟩ := run_append_own W 0 T o.type E i z size bytes hT.under hi hz hsz hby hzs hT.pos (.slice none 0 0) 0 [] (World.ownsRow_nil _ _ _ _) ad els2.length cap us hul (hcell ad rfl) hone (by simp only [maxLen]; omega) (by simpa using hroom.1) (Nat.zero_le _)
        subst hsz; subst hby
        have hr := run_append_nil (P := P) W T o.type E i z hT.under hi hz ad els2.length cap us hul (hcell ad rfl) (by omega) (by simp at hroom; omega) (by have := hroom.1; simp at this; omega)
        rw [hr] at h1
        simp only [Result.ok.injEq] at h1
        obtain ⟨rfl, rfl⟩ := h1
        exact ⟨#[], _, _, by simpa using hr, by simpa using h2, Keep.of_below ⟨h3.os, h3.tape, h3.output, h3.size, fun k hk => h3.block k hk (by simp [Value.ownBlock])⟩⟩
      | some b =>
        subst hsz; subst hby
        have hr := run_append_grow (P := P) W T o.type E i z hT.under hi hz b els.length els.length us1 hul1 (hcell1 b rfl) ad els2.length cap us hul (hcell ad rfl) (by omega) (by omega) (growslice_fits (by omega) hroom.1)
        refine ⟨#[], _, _, hr, ?_, ?_⟩
        · exact grown_owns hzs (by simp [hul1, hul, Nat.add_mul]) (by omega) (by simp only [maxLen]; omega)
        · exact ⟨rfl, rfl, rfl, by simp, fun k hk _ => heap_alloc_old W.drew _ hk⟩
    obtain ⟨_, cap', W', hrun, hown', hkeep⟩ := hgrow
    have hexec : (execOp ev o).run P W = .ok (.value (.slice (some ⟨W.heap.size, 0, none⟩) (els.length + els2.length) cap')) W' := by
      simp only [execOp, ho, resolve, invoke, builtin, Sem.run_bind, Sem.run_pure, Result.andThen_ok, List.map_toArray, List.map_cons, List.map_nil, hx', hy', hrun]
    rw [hexec]
    refine ⟨setEnv env r (.slice (some ⟨W.heap.size, 0, none⟩) (els.length + els2.length) cap'), fun _ b => b = W.heap.size, R, fun k hk => setEnv_other (hk (.row r E size (els ++ els2)) (by simp)), by simp [AV.den, setEnv_same, oneOf], ?_⟩
    have hlt := (hown'.lt W.heap.size (by simp [Value.ownBlock])).2
    refine St.fresh hkeep hR ?_ (fun b hb => by subst hb; exact ⟨Nat.le_refl _, hlt⟩)
    simp only [NEnt.holds, setEnv_same]
    refine ⟨fun el he => (List.mem_append.1 he).elim (hs1 el) (hs2 el), us1 ++ us, by simpa using hown', fun b hb => by simp [Value.ownBlock] at hb; exact hb.symm, fun q d hq => ?_⟩
    have hRk : ∀ b, R b → R b ∧ W'.heap[b]? = W.heap[b]? := fun b hb => ⟨hb, hkeep.block b (hR b hb) (fun x => x)⟩
    have hfl := flatten_len els hs1
    rw [List.flatten_append] at hq
    rcases Nat.lt_or_ge q els.flatten.length with hlt2 | hge
    · rw [List.getElem?_append_left hlt2] at hq
      obtain ⟨u, hu, hok'⟩ := hok1 _ d hq
      exact ⟨u, by rw [List.getElem?_append_left (by omega)]; exact hu, d.mono W W' R R hRk u hok', hone1 u (List.mem_of_getElem? hu)⟩
    · rw [List.getElem?_append_right hge] at hq
      obtain ⟨u, hu, hok'⟩ := hok _ d hq
      exact ⟨u, by rw [List.getElem?_append_right (by omega), hul1, ← hfl]; exact hu, d.mono W W' R R hRk u hok', hone u (List.mem_of_getElem? hu)⟩
theorem arr_get {X : Type} {enc : X → List AV} {s : Nat} (hl : ∀ x, (enc x).length = s) (h0 : Nat.blt 0 s = true) {cells pre post : List AV} {xs : List X} {i j : Nat} {x : X} {a : AV} (hc : cells = pre ++ xs.flatMap enc ++ post) (hx : xs[i]? = some x) (hj : (enc x)[j]? = some a) : cells[pre.length + (i * s + j)]? = some a := by
  subst hc
  have hjs : j < s := by rw [← hl x]; exact (List.getElem?_eq_some_iff.1 hj).1
  have hf := flatten_get (xs.map enc) (size := s) i j (enc x) (by intro q hq; obtain ⟨z, _, rfl⟩ := List.mem_map.1 hq; exact hl z) (by simp [hx]) hjs
  rw [List.append_assoc, List.getElem?_append_right (by omega), Nat.add_sub_cancel_left]
  have e : xs.flatMap enc = (xs.map enc).flatten := by rw [List.flatMap_def]
  rw [e]
  have hlt : i * s + j < (xs.map enc).flatten.length := by
    have h2 : (xs.map enc).flatten[i * s + j]? = some a := hf.trans hj
    exact (List.getElem?_eq_some_iff.1 h2).1
  rw [List.getElem?_append_left hlt, hf, hj]
end
end Go.Proofs.YtohjpfkcahlfkaaGreat.Sy
