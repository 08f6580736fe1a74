/- append onto a row of bytes that a conversion from a string may have made: of bytes, and of so many zeros, as the program's table has it. -/
import Derived.Test.YtgkdjcednebgoaaX7
import Derived.Lib.ConvBytes
namespace Go.Proofs.Ytgkdjcednebgoaa
open Go.RowKit Go.Lib

theorem zeroCells_bytes (m : Nat) : (Builtin.zeroCells (Value.int .u8 0).cells m).toList = byteCells (List.replicate m 0) := by
  rw [byteCells_zeros]
  apply List.ext_getElem?
  intro j
  simp [Builtin.zeroCells, Value.cells, List.getElem?_replicate, List.getElem?_map]
  by_cases h : j < m <;> simp [h, Nat.mod_one]

theorem heap_setCell_fr (w : World) (g i : Nat) (cs : Array Value) (t : TypeId) (fr : Nat × Nat) (v : Value) (hg : w.heap[g]? = some (.cells cs t fr)) :
    (w.setCell ⟨g, i, none⟩ v).heap[g]? = some (.cells (cs.setIfInBounds i v) t fr) := by
  simp [World.setCell, Array.getElem?_modify, hg]

theorem heap_setCells (g : Nat) (t : TypeId) (fr : Nat × Nat) : ∀ (vs : List Value) (o : Nat) (w : World) (cs : Array Value), w.heap[g]? = some (.cells cs t fr) → o + vs.length ≤ cs.size →
    (w.setCells g o vs).heap[g]? = some (.cells (cs.toList.take o ++ vs ++ cs.toList.drop (o + vs.length)).toArray t fr) := by
  intro vs
  induction vs with
  | nil =>
    intro o w cs hg _
    rw [World.setCells, hg]
    simp
  | cons v vs ih =>
    intro o w cs hg hl
    rw [List.length_cons] at hl
    rw [World.setCells, ih (o + 1) _ _ (heap_setCell_fr w g o cs t fr v hg) (by simp; omega)]
    congr 2
    apply Array.ext'
    have h1 : o < cs.toList.length := by simp; omega
    rw [Array.toList_setIfInBounds, List.toList_toArray, List.toList_toArray, List.length_cons]
    have e1 : (cs.toList.set o v).take (o + 1) = cs.toList.take o ++ [v] := by
      rw [List.take_succ_eq_append_getElem (by simpa using h1), List.take_set_of_le (Nat.le_refl _)]
      simp
    have e2 : (cs.toList.set o v).drop (o + 1 + vs.length) = cs.toList.drop (o + 1 + vs.length) := List.drop_set_of_lt (by omega)
    rw [e1, e2, show o + (vs.length + 1) = o + 1 + vs.length by omega]
    simp [List.append_assoc]

theorem grownBy_setCells (g : Nat) : ∀ (vs : List Value) (o : Nat) (w : World), w.grownBy (w.setCells g o vs) (some g) := by
  intro vs
  induction vs with
  | nil => intro o w; exact World.grownBy.refl w _
  | cons v vs ih =>
    intro o w
    have h1 : w.grownBy (w.setCell ⟨g, o, none⟩ v) (some g) := ⟨rfl, rfl, rfl, by simp [World.setCell], fun k _ hk => heap_setCell_other w ⟨g, o, none⟩ k v (fun e => hk (by simp [e]))⟩
    exact grownBy_trans h1 (ih (o + 1) _)

/-- A slice value that begins a row of bytes, from B on; the row may bear the mark of a conversion. -/
def OwnM (w : World) (B : Nat) (v : Value) (l : List UInt8) : Prop :=
  ∃ (g cap : Nat) (cur : Array Value) (fr : Nat × Nat), v = .slice (some ⟨g, 0, none⟩) l.length cap ∧ B ≤ g ∧ w.heap[g]? = some (.cells cur 5 fr) ∧ (fr = (0, 0) ∨ fr = (cur.size, cur.size + 1)) ∧ l.length ≤ cap ∧ cap ≤ maxLen ∧ cur.size = cap ∧ cur.toList.take l.length = byteCells l

theorem OwnM.lt {w : World} {B : Nat} {v : Value} {l : List UInt8} (h : OwnM w B v l) : ∀ k, v.ownBlock = some k → B ≤ k ∧ k < w.heap.size := by
  obtain ⟨g, cap, cur, fr, rfl, hB, hg, _⟩ := h
  intro k hk
  simp [Value.ownBlock] at hk
  subst hk
  exact ⟨hB, (Array.getElem?_eq_some_iff.1 hg).1⟩

theorem OwnM.keep {F : Nat → Prop} {w w' : World} {B : Nat} {v : Value} {l : List UInt8} (h : OwnM w B v l) (hk : Kp F w w') (hF : ∀ k, v.ownBlock = some k → ¬ F k) : OwnM w' B v l := by
  obtain ⟨g, cap, cur, fr, rfl, hB, hg, rest⟩ := h
  exact ⟨g, cap, cur, fr, rfl, hB, hk.heap hg (hF g rfl), rest⟩

theorem OwnM.cells {w : World} {B g cap : Nat} {l : List UInt8} (h : OwnM w B (.slice (some ⟨g, 0, none⟩) l.length cap) l) : ∀ j u, (byteCells l)[j]? = some u → w.cell? ((⟨g, 0, none⟩ : Addr).add j) = some u := by
  obtain ⟨g', cap', cur, fr, he, _, hg, _, hn, _, hs, ht⟩ := h
  cases he
  intro j u hu
  have hadd : (⟨g, 0, none⟩ : Addr).add j = ⟨g, j, none⟩ := by unfold Addr.add; split <;> simp_all
  have hj : j < l.length := by
    have := (List.getElem?_eq_some_iff.1 hu).1
    rwa [byteCells_length] at this
  rw [hadd, cell_of_row w g j cur 5 fr hg, ← Array.getElem?_toList, ← hu, ← ht, List.getElem?_take_of_lt hj]

/-- What the grown row is. -/
theorem OwnM.grown {w : World} {B : Nat} (hB : B ≤ w.heap.size) (l ns : List UInt8) (cap : Nat) (hm : l.length + ns.length ≤ 1000000) :
    OwnM (w.drew.alloc (.cells ((byteCells l).toArray ++ (byteCells ns).toArray ++ Builtin.zeroCells (Value.int .u8 0).cells (grownCap w (l.length + ns.length) cap 5 - (l.length + ns.length))) 5)) B
      (.slice (some ⟨w.heap.size, 0, none⟩) (l.length + ns.length) (grownCap w (l.length + ns.length) cap 5)) (l ++ ns) := by
  have hge := grownCap_ge w (l.length + ns.length) cap 5
  have hcm2 : grownCap w (l.length + ns.length) cap 5 ≤ maxLen := grownCap_le_maxLen w _ _ _ (by unfold maxLen; omega)
  refine ⟨w.heap.size, _, _, (0, 0), by rw [List.length_append], hB, heap_alloc_new w.drew _, .inl rfl, by rw [List.length_append]; exact hge, hcm2, ?_, ?_⟩
  · simp only [Array.size_append, List.size_toArray, size_zeroCells, byteCells_length, Value.cells]
    simp
    omega
  · simp only [Array.toList_append]
    rw [byteCells_append]
    exact List.take_left' (by rw [List.length_append, byteCells_length, byteCells_length, List.length_append])

theorem OwnM.stored {w : World} {B g cap : Nat} {cur : Array Value} {fr : Nat × Nat} {l ns : List UInt8} (hB : B ≤ g) (hg : w.heap[g]? = some (.cells cur 5 fr)) (hfr : fr = (0, 0) ∨ fr = (cur.size, cur.size + 1)) (hcm : cap ≤ maxLen) (hcs : cur.size = cap)
    (ht : cur.toList.take l.length = byteCells l) (hroom : l.length + ns.length ≤ cap) : OwnM (w.setCells g l.length (byteCells ns)) B (.slice (some ⟨g, 0, none⟩) (l.length + ns.length) cap) (l ++ ns) := by
  refine ⟨g, cap, _, fr, by rw [List.length_append], hB, heap_setCells g 5 fr _ _ _ _ hg (by rw [byteCells_length]; omega), ?_, by rw [List.length_append]; exact hroom, hcm, ?_, ?_⟩
  · rcases hfr with h | h
    · exact .inl h
    · refine .inr ?_
      rw [h]
      have : (cur.toList.take l.length ++ byteCells ns ++ cur.toList.drop (l.length + (byteCells ns).length)).toArray.size = cur.size := by simp [byteCells_length]; omega
      rw [this]
  · simp [byteCells_length]; omega
  · rw [List.toList_toArray, ht, byteCells_append]
    exact List.take_left' (by rw [List.length_append, byteCells_length, byteCells_length, List.length_append])

theorem storeM {w : World} {g cap : Nat} {cur : Array Value} {fr : Nat × Nat} {n : Nat} {ns : List UInt8} (hg : w.heap[g]? = some (.cells cur 5 fr)) (hfr : fr = (0, 0) ∨ fr = (cur.size, cur.size + 1)) (hcs : cur.size = cap) (hroom : n + ns.length ≤ cap) :
    (storeCells ⟨g, n, none⟩ (byteCells ns)).run Try.prog w = .ok () (w.setCells g n (byteCells ns)) := by
  have h := run_storeCells_cells (P := Try.prog) g n (byteCells ns) 0 w (fun j hj => ?_) (fun j hj => ?_) (fun v hv => ?_)
  · simpa using h
  · rw [byteCells_length] at hj
    rw [cell_of_row w g _ cur 5 fr hg]
    simp; omega
  · rw [byteCells_length] at hj
    rcases hfr with h | h <;> subst h <;> simp [World.frozen?, hg] <;> omega
  · simp [byteCells] at hv
    obtain ⟨b, _, rfl⟩ := hv
    rfl

theorem run_append_M (w : World) (B : Nat) (ty : TypeId) (v : Value) (l ns : List UInt8) (hown : OwnM w B v l) (ad : Addr) (c : Nat) (hnews : ∀ j u, (byteCells ns)[j]? = some u → w.cell? (ad.add j) = some u) (hm : l.length + ns.length ≤ 1000000) (hB : B ≤ w.heap.size) :
    ∃ v' w', (Builtin.append_ #[33, 33] ty #[v, .slice (some ad) ns.length c]).run Try.prog w = .ok v' w' ∧ OwnM w' B v' (l ++ ns) ∧ w.grownBy w' v.ownBlock := by
  obtain ⟨i0, hi, hz0, hz1, hz2⟩ := info_parts Try.info5
  have hown0 := hown
  obtain ⟨g, cap, cur, fr, rfl, hBg, hg, hfr, hnc, hcm, hcs, htake⟩ := hown
  have hf := run_firstCells_some (P := Try.prog) w 1 ns.length ad ns.length c (byteCells ns) (by rw [byteCells_length]; omega) hnews
  by_cases hroom : l.length + ns.length ≤ cap
  · have hst := storeM (ns := ns) hg hfr hcs hroom
    refine ⟨_, _, ?_, OwnM.stored hBg hg hfr hcm hcs htake hroom, grownBy_setCells g _ _ _⟩
    simp [Builtin.append_, run_underlying Try.underlying33, sizeOf, typeInfo, hi, hz1, Builtin.lenOf, hroom, hf, Addr.add_lit, hst]
  · have hr := run_append_grow (P := Try.prog) w 33 ty 5 i0 (.int .u8 0) Try.underlying33 hi hz0 ⟨g, 0, none⟩ l.length cap (byteCells l) (by rw [byteCells_length, hz1]; omega) hown0.cells ad ns.length c (byteCells ns) (by rw [byteCells_length, hz1]; omega) hnews (by omega) (by omega)
      (growslice_fits (by omega) (by rw [hz2]; omega))
    exact ⟨_, _, hr, OwnM.grown hB l ns cap hm, ⟨rfl, rfl, rfl, by simp, fun _ hk _ => Below.heap_alloc w.drew _ _ hk⟩⟩

theorem run_append_zeros (w : World) (B : Nat) (ty : TypeId) (v : Value) (l : List UInt8) (hown : OwnM w B v l) (m : Nat) (hm : l.length + m ≤ 1000000) (hB : B ≤ w.heap.size) :
    ∃ v' w', (Builtin.append_ #[33, 3] ty #[v, .int .i64 (m : Int)]).run Try.prog w = .ok v' w' ∧ OwnM w' B v' (l ++ List.replicate m 0) ∧ w.grownBy w' v.ownBlock := by
  obtain ⟨i0, hi, hz0, hz1, hz2⟩ := info_parts Try.info5
  have hwr : IntKind.i64.wrap (m : Int) = (m : Int) := IntWalk.i64_in _ (by omega)
  have hwn : ¬ (m : Int) < 0 := by omega
  have hw48 : ¬ (281474976710656 < (m : Int) * (i0.bytes : Int)) := by rw [hz2]; omega
  have hw0 : IntKind.i64.wrap 0 = 0 := by decide +kernel
  have hrl : (List.replicate m (0 : UInt8)).length = m := by simp
  have hown0 := hown
  obtain ⟨g, cap, cur, fr, rfl, hBg, hg, hfr, hnc, hcm, hcs, htake⟩ := hown
  by_cases hm0 : m = 0
  · subst hm0
    refine ⟨_, w, ?_, by simpa using hown0, World.grownBy.refl w _⟩
    simp [Builtin.append_, asInt, asIntOf, run_underlying Try.underlying33, run_underlying Try.underlying3, sizeOf, typeInfo, hi, hz1, hw0, hnc, Addr.add_lit, storeCells]
  by_cases hroom : l.length + m ≤ cap
  · have hst := storeM (ns := List.replicate m 0) hg hfr hcs (by rw [hrl]; exact hroom)
    have hz := zeroCells_bytes m
    have ho := OwnM.stored (ns := List.replicate m 0) hBg hg hfr hcm hcs htake (by rw [hrl]; exact hroom)
    rw [hrl] at ho
    refine ⟨_, _, ?_, ho, grownBy_setCells g _ _ _⟩
    simp [Builtin.append_, asInt, asIntOf, run_underlying Try.underlying33, run_underlying Try.underlying3, sizeOf, typeInfo, zeroValue, hi, hz0, hz1, hz2, hroom, hwr, hwn, hm0, Addr.add_lit, hz, hst]
    intro h
    omega
  · have hn : ¬ (l.length + m ≤ cap) := hroom
    have h63' : ¬ (9223372036854775807 < ((l.length : Int) + (m : Int))) := by omega
    have h48' : ¬ (281474976710656 < Builtin.nextslicecap (l.length + m) cap * i0.bytes) := by
      have := growslice_fits (need := l.length + m) (old := cap) (bytes := i0.bytes) (by omega) (by rw [hz2]; omega)
      omega
    have hz' : Builtin.zeroCells (Value.int .u8 0).cells m = (byteCells (List.replicate m 0)).toArray := by
      apply Array.ext'
      rw [zeroCells_bytes]
    have hfo := run_firstCells_some (P := Try.prog) w.drew 1 l.length ⟨g, 0, none⟩ l.length cap (byteCells l) (by rw [byteCells_length]; omega) (by simpa using hown0.cells)
    have ho := OwnM.grown hB l (List.replicate m 0) cap (by rw [hrl]; exact hm)
    rw [hrl] at ho
    refine ⟨_, _, ?_, ho, ⟨rfl, rfl, rfl, by simp, fun _ hk _ => Below.heap_alloc w.drew _ _ hk⟩⟩
    simp [Builtin.append_, asInt, asIntOf, run_underlying Try.underlying33, run_underlying Try.underlying3, sizeOf, typeInfo, zeroValue, hi, hz0, hz1, hn, h63', h48', hwr, hwn, hm0, hw48, Question.forced, hfo, newRow, grownCap]
    congr 2
    rw [hz', ← Array.append_assoc, List.append_toArray]
    apply Array.ext'
    simp [List.append_assoc]

theorem wpList_append_M {w : World} {ops : Array Oper} {rest : List Oper} {o : Oper} {a : Act} {Q : Exit → Act → World → Prop} (hgd : o.guard = none) (s x : Operand)
    (ho : o.op = .call { callee := .builtin .append, args := #[s, x], argTypes := #[33, 33] }) (B : Nat) (v : Value) (l ns : List UInt8) (hs : a.eval s = v) (hown : OwnM w B v l)
    (ad : Addr) (k c : Nat) (hx : a.eval x = .slice (some ad) k c) (hk : k = ns.length) (hnews : ∀ j u, (byteCells ns)[j]? = some u → w.cell? (ad.add j) = some u) (hm : l.length + ns.length ≤ 1000000) (hB : B ≤ w.heap.size)
    (h : ∀ v' w', OwnM w' B v' (l ++ ns) → w.grownBy w' v.ownBlock → wpList Try.prog ops Q rest (a.put o.dst v') w') : wpList Try.prog ops Q (o :: rest) a w := by
  subst hk
  refine wpList_plain hgd fun K hK => ?_
  obtain ⟨v', w', hr, h2, h3⟩ := run_append_M w B o.type v l ns hown ad c hnews hm hB
  unfold Oper.wp execOp
  simp only [ho, resolve, invoke, builtin, Sem.run_bind, Sem.run_pure, Result.andThen_ok, List.map_toArray, List.map_cons, List.map_nil, hs, hx, hr]
  exact hK _ _ (h v' w' h2 h3)

theorem wpList_append_zeros {w : World} {ops : Array Oper} {rest : List Oper} {o : Oper} {a : Act} {Q : Exit → Act → World → Prop} (hgd : o.guard = none) (s x : Operand)
    (ho : o.op = .call { callee := .builtin .append, args := #[s, x], argTypes := #[33, 3] }) (B : Nat) (v : Value) (l : List UInt8) (hs : a.eval s = v) (hown : OwnM w B v l)
    (m : Nat) (hx : a.eval x = .int .i64 (m : Int)) (hm : l.length + m ≤ 1000000) (hB : B ≤ w.heap.size)
    (h : ∀ v' w', OwnM w' B v' (l ++ List.replicate m 0) → w.grownBy w' v.ownBlock → wpList Try.prog ops Q rest (a.put o.dst v') w') : wpList Try.prog ops Q (o :: rest) a w := by
  refine wpList_plain hgd fun K hK => ?_
  obtain ⟨v', w', hr, h2, h3⟩ := run_append_zeros w B o.type v l hown m hm hB
  unfold Oper.wp execOp
  simp only [ho, resolve, invoke, builtin, Sem.run_bind, Sem.run_pure, Result.andThen_ok, List.map_toArray, List.map_cons, List.map_nil, hs, hx, hr]
  exact hK _ _ (h v' w' h2 h3)

/-- []byte(s). -/
theorem OwnM.made (w : World) (s : ByteArray) (hs : s.size ≤ 1000000) : OwnM (bytesWorld w 5 s) w.heap.size (.slice (some ⟨w.heap.size, 0, none⟩) s.size (grownCap w s.size 0 5)) s.data.toList := by
  have hge := grownCap_ge w s.size 0 5
  have hcm2 : grownCap w s.size 0 5 ≤ maxLen := grownCap_le_maxLen w _ _ _ (by unfold maxLen; omega)
  have hsz : (bytesCells w 5 s).size = grownCap w s.size 0 5 := by
    simp [bytesCells]
    have : s.data.size = s.size := rfl
    omega
  refine ⟨w.heap.size, _, bytesCells w 5 s, _, by rw [size_list], Nat.le_refl _, bytesWorld_at_new w 5 s, .inr rfl, by rw [← size_list]; exact hge, hcm2, hsz, ?_⟩
  simp only [bytesCells, Array.toList_append, Array.toList_map, Array.toList_replicate]
  rw [List.take_left' (by simp)]
  rfl

theorem bytesWorld_kp (w : World) (s : ByteArray) : Kp (fun _ => False) w (bytesWorld w 5 s) :=
  ⟨rfl, rfl, rfl, by rw [bytesWorld_size]; omega, fun k hk _ => bytesWorld_at_old w 5 s k hk⟩

end Go.Proofs.Ytgkdjcednebgoaa
