/- Walks: the place of a reply, and a list without it. -/
import Derived.Test.YtlkamfmepjddkaaWa
import Derived.Test.YtlkamfmepjddkaaN5
set_option linter.unusedSimpArgs false
set_option linter.unusedVariables false
namespace Go.Proofs.Ytlkamfmepjddkaa
open Go.RowKit Go.Lib Go.Maps

theorem eqGuard50 (x y : Operand) (a b : Rp) (w : World) : (eqGuard .eql 50 x y (rpV a) (rpV b)).run Try.prog w = .ok () w := run_eqGuard_agg w .eql 50 x y _ _ (by kernel_rfl)

theorem yields_eqR {ops : Array Oper} {S : World → Prop} {op : Oper} {a : Act} (hw : Region.wanted op (yielded ops a.tmps) = true) (x y : Operand) (ho : op.op = .binOp .eql 50 x y 50) (m r : Rp) (hx : a.eval x = rpV m) (hy : a.eval y = rpV r) :
    YieldsIf Try.prog ops S op (.bool (eqR m r)) a :=
  .inl ⟨hw, fun w _ => by
    have h1 : (binOp .eql 50 (rpV m) (rpV r)).run Try.prog w = .ok (.bool (eqR m r)) w := by
      have := run_eql_struct (P := Try.prog) w 50 #[.int .i64 m.num, .int .i64 m.mir, .int .i64 m.at', .string m.b] #[.int .i64 r.num, .int .i64 r.mir, .int .i64 r.at', .string r.b]
      have h2 := run_eqR m r w
      unfold rpV at *
      rw [this, h2]
      rfl
    unfold execOp
    simp only [ho, hx, hy, Sem.run_bind, eqGuard50, Result.andThen_ok, h1, Sem.run_pure]⟩

def IdxRel (w0 : World) (k : Nat) (i : Value) (wr : World) : Prop := ∃ j : Nat, i = .int .i64 (j : Int) ∧ j ≤ k ∧ Kp (fun _ => False) w0 wr

set_option maxRecDepth 100000 in
set_option maxHeartbeats 4000000 in
theorem index_any (sp : Option Addr) (c : Nat) (l : List Rp) (w : World) (hs : Src w 4 sp l.length (rps l)) (hn : l.length ≤ 1000000) (k : Nat) (m : Rp) (hk : l[k]? = some m) (hf : ∀ (j : Nat) x, j < k → l[j]? = some x → x ≠ m) :
    Calls Try.prog 37 #[.slice sp l.length c, rpV m] w fun e w' => e = .returned (.int .i64 (k : Int)) ∧ Kp (fun _ => False) w w' := by
  obtain ⟨n, hnn⟩ : ∃ n, n = l.length := ⟨_, rfl⟩
  have hkn : k < n := by rw [hnn]; exact (List.getElem?_eq_some_iff.1 hk).1
  rw [← hnn] at hs hn ⊢
  obtain ⟨g, o, rfl, hr⟩ := hs.2 (by omega)
  have HR := Lib.hid hr
  have HK := Lib.hid hk
  have HF := Lib.hid hf
  have HNN := Lib.hid hnn
  clear hs hr hk hf hnn
  unfold rpV
  go_enter Try.func37, Try.ntmps37
  go_wp2_with fail
  obtain ⟨w0, hw0⟩ : ∃ w0, w0 = w.alloc (.cells #[.int .i64 m.num, .int .i64 m.mir, .int .i64 m.at', .string m.b] 50) := ⟨_, rfl⟩
  have K0 : Hid (Kp (fun _ => False) w w0) := Lib.hid (by rw [hw0]; exact Kp.alloc _ _ _)
  have B0 : Hid (w0.heap[w.heap.size]? = some (.cells #[.int .i64 m.num, .int .i64 m.mir, .int .i64 m.at', .string m.b] 50 (0, 0))) := Lib.hid (by rw [hw0]; exact heap_alloc_new w _)
  rw [← hw0]
  clear hw0
  go_loopw [8] (fun i wr => IdxRel w0 k i wr) (fun i _ => n - (Go.RowKit.intOf i).toNat)
  case atStart => exact ⟨0, rfl, Nat.zero_le _, Kp.refl _ _⟩
  case round =>
    obtain ⟨j, rfl, hj, hkp⟩ := hrel
    have HKP := Lib.hid hkp
    obtain ⟨d0, d1, d2, d3, _⟩ := rp4 (hkp.heap B0.out (fun h => h))
    have D0 := Lib.hid d0
    have D1 := Lib.hid d1
    have D2 := Lib.hid d2
    have D3 := Lib.hid d3
    have hjn : j < n := by omega
    obtain ⟨x, hx⟩ : ∃ x, l[j]? = some x := ⟨_, List.getElem?_eq_getElem (by have := HNN.out; omega)⟩
    obtain ⟨e0, e1, e2, e3⟩ := rp_cells (rangeAt_kp (F := fun _ => False) HR.out (K0.out.trans hkp fun _ h => h.elim) (fun h => h)) hx
    have E0 := Lib.hid e0
    have E1 := Lib.hid e1
    have E2 := Lib.hid e2
    have E3 := Lib.hid e3
    have HX := Lib.hid hx
    have i0 : (0 : Int) ≤ (j : Int) := by omega
    have i1 : (j : Int) < (n : Int) := by omega
    clear hkp hx d0 d1 d2 d3 e0 e1 e2 e3
    by_cases hjk : j = k
    · subst hjk
      have hxm : x = m := by
        have := HX.out
        rw [HK.out] at this
        cases this
        rfl
      have hq : eqR m x = true := (eqR_iff m x).2 hxm.symm
      clear hxm
      go_wp2_with fail
      refine wp_region_held_drew (S := Kp (fun _ => False) wr) (by kernel_rfl) (Kp.drew _ _) (fun hHeld => ?_)
      refine wpAnyH_take (i := 0) (v := ?v1) rfl (by kernel_rfl) (by kernel_rfl) (by kernel_rfl) (fun _ _ _ h => h) (Or.inl ⟨by rfl, ?y1⟩) (by assumption) ?r1
      case y1 =>
        intro wq hSw
        have q0 := hSw.cell D0.out (fun h => h)
        have q1 := hSw.cell D1.out (fun h => h)
        have q2 := hSw.cell D2.out (fun h => h)
        have q3 := hSw.cell D3.out (fun h => h)
        clear hSw
        go_simp
        with_reducible rfl
      simp only [Act.put, List.getElem_toArray, List.getElem_cons_succ, List.getElem_cons_zero, List.setIfInBounds_toArray, List.set_cons_zero, List.set_cons_succ]
      refine wpAnyH_take (i := 1) (v := ?v2) rfl (by kernel_rfl) (by kernel_rfl) (by kernel_rfl) (fun _ _ _ h => h) (Or.inl ⟨by rfl, ?y2⟩) (by assumption) ?r2
      case y2 =>
        intro wq hSw
        clear hSw
        go_simp
        with_reducible rfl
      simp only [Act.put, List.getElem_toArray, List.getElem_cons_succ, List.getElem_cons_zero, List.setIfInBounds_toArray, List.set_cons_zero, List.set_cons_succ]
      refine wpAnyH_take (i := 2) (v := ?v3) rfl (by kernel_rfl) (by kernel_rfl) (by kernel_rfl) (fun _ _ _ h => h) (Or.inl ⟨by rfl, ?y3⟩) (by assumption) ?r3
      case y3 =>
        intro wq hSw
        clear hSw
        go_simp
        with_reducible rfl
      simp only [Act.put, List.getElem_toArray, List.getElem_cons_succ, List.getElem_cons_zero, List.setIfInBounds_toArray, List.set_cons_zero, List.set_cons_succ]
      refine wpAnyH_take (i := 3) (v := ?v4) rfl (by kernel_rfl) (by kernel_rfl) (by kernel_rfl) (fun _ _ _ h => h) (Or.inl ⟨by rfl, ?y4⟩) (by assumption) ?r4
      case y4 =>
        intro wq hSw
        clear hSw
        go_simp
        with_reducible rfl
      simp only [Act.put, List.getElem_toArray, List.getElem_cons_succ, List.getElem_cons_zero, List.setIfInBounds_toArray, List.set_cons_zero, List.set_cons_succ]
      refine wpAnyH_take (i := 4) (v := ?v5) rfl (by kernel_rfl) (by kernel_rfl) (by kernel_rfl) (fun _ _ _ h => h) (Or.inl ⟨by rfl, ?y5⟩) (by assumption) ?r5
      case y5 =>
        intro wq hSw
        have q0 := hSw.cell E0.out (fun h => h)
        have q1 := hSw.cell E1.out (fun h => h)
        have q2 := hSw.cell E2.out (fun h => h)
        have q3 := hSw.cell E3.out (fun h => h)
        clear hSw
        go_simp
        with_reducible rfl
      simp only [Act.put, List.getElem_toArray, List.getElem_cons_succ, List.getElem_cons_zero, List.setIfInBounds_toArray, List.set_cons_zero, List.set_cons_succ]
      refine wpAnyH_take (i := 5) (v := _) rfl (by kernel_rfl) (by kernel_rfl) (by kernel_rfl) (fun _ _ _ h => h) (yields_eqR (by rfl) _ _ rfl m x rfl rfl) (by assumption) ?_
      simp only [Act.put, List.getElem_toArray, List.getElem_cons_succ, List.getElem_cons_zero, List.setIfInBounds_toArray, List.set_cons_zero, List.set_cons_succ]
      refine wpAnyH_done (by kernel_rfl) ?_ _
      have kf := hHeld
      have KF := Lib.hid kf
      clear hHeld kf
      rw [hq]
      go_wp2_with fail
      go_ret
      exact ⟨rfl, (K0.out.trans HKP.out fun _ h => h.elim).trans KF.out fun _ (h : False) => h.elim⟩
    · have hxm : x ≠ m := HF.out j x (by omega) HX.out
      have hq : eqR m x = false := by
        cases h : eqR m x
        · rfl
        · exact absurd ((eqR_iff m x).1 h).symm hxm
      clear hxm
      go_wp2_with fail
      refine wp_region_held_drew (S := Kp (fun _ => False) wr) (by kernel_rfl) (Kp.drew _ _) (fun hHeld => ?_)
      refine wpAnyH_take (i := 0) (v := ?v6) rfl (by kernel_rfl) (by kernel_rfl) (by kernel_rfl) (fun _ _ _ h => h) (Or.inl ⟨by rfl, ?y6⟩) (by assumption) ?r6
      case y6 =>
        intro wq hSw
        have q0 := hSw.cell D0.out (fun h => h)
        have q1 := hSw.cell D1.out (fun h => h)
        have q2 := hSw.cell D2.out (fun h => h)
        have q3 := hSw.cell D3.out (fun h => h)
        clear hSw
        go_simp
        with_reducible rfl
      simp only [Act.put, List.getElem_toArray, List.getElem_cons_succ, List.getElem_cons_zero, List.setIfInBounds_toArray, List.set_cons_zero, List.set_cons_succ]
      refine wpAnyH_take (i := 1) (v := ?v7) rfl (by kernel_rfl) (by kernel_rfl) (by kernel_rfl) (fun _ _ _ h => h) (Or.inl ⟨by rfl, ?y7⟩) (by assumption) ?r7
      case y7 =>
        intro wq hSw
        clear hSw
        go_simp
        with_reducible rfl
      simp only [Act.put, List.getElem_toArray, List.getElem_cons_succ, List.getElem_cons_zero, List.setIfInBounds_toArray, List.set_cons_zero, List.set_cons_succ]
      refine wpAnyH_take (i := 2) (v := ?v8) rfl (by kernel_rfl) (by kernel_rfl) (by kernel_rfl) (fun _ _ _ h => h) (Or.inl ⟨by rfl, ?y8⟩) (by assumption) ?r8
      case y8 =>
        intro wq hSw
        clear hSw
        go_simp
        with_reducible rfl
      simp only [Act.put, List.getElem_toArray, List.getElem_cons_succ, List.getElem_cons_zero, List.setIfInBounds_toArray, List.set_cons_zero, List.set_cons_succ]
      refine wpAnyH_take (i := 3) (v := ?v9) rfl (by kernel_rfl) (by kernel_rfl) (by kernel_rfl) (fun _ _ _ h => h) (Or.inl ⟨by rfl, ?y9⟩) (by assumption) ?r9
      case y9 =>
        intro wq hSw
        clear hSw
        go_simp
        with_reducible rfl
      simp only [Act.put, List.getElem_toArray, List.getElem_cons_succ, List.getElem_cons_zero, List.setIfInBounds_toArray, List.set_cons_zero, List.set_cons_succ]
      refine wpAnyH_take (i := 4) (v := ?v10) rfl (by kernel_rfl) (by kernel_rfl) (by kernel_rfl) (fun _ _ _ h => h) (Or.inl ⟨by rfl, ?y10⟩) (by assumption) ?r10
      case y10 =>
        intro wq hSw
        have q0 := hSw.cell E0.out (fun h => h)
        have q1 := hSw.cell E1.out (fun h => h)
        have q2 := hSw.cell E2.out (fun h => h)
        have q3 := hSw.cell E3.out (fun h => h)
        clear hSw
        go_simp
        with_reducible rfl
      simp only [Act.put, List.getElem_toArray, List.getElem_cons_succ, List.getElem_cons_zero, List.setIfInBounds_toArray, List.set_cons_zero, List.set_cons_succ]
      refine wpAnyH_take (i := 5) (v := _) rfl (by kernel_rfl) (by kernel_rfl) (by kernel_rfl) (fun _ _ _ h => h) (yields_eqR (by rfl) _ _ rfl m x rfl rfl) (by assumption) ?_
      simp only [Act.put, List.getElem_toArray, List.getElem_cons_succ, List.getElem_cons_zero, List.setIfInBounds_toArray, List.set_cons_zero, List.set_cons_succ]
      refine wpAnyH_done (by kernel_rfl) ?_ _
      have kf := hHeld
      have KF := Lib.hid kf
      clear hHeld kf
      rw [hq]
      go_wp2_with fail
      go_roundw
      case rel => exact ⟨j + 1, by simp, by omega, HKP.out.trans KF.out fun _ (h : False) => h.elim⟩
      case measure => simp [Go.RowKit.intOf]; omega

theorem heap_setCells (g : Nat) (t : TypeId) (fr : Nat × Nat) : ∀ (vs : List Value) (o : Nat) (w : World) (cs : Array Value), w.heap[g]? = some (.cells cs t fr) → o + vs.length ≤ cs.size →
    (w.setCells g o vs).heap[g]? = some (.cells (cs.toList.take o ++ vs ++ cs.toList.drop (o + vs.length)).toArray t fr) := by
  intro vs
  induction vs with
  | nil =>
    intro o w cs hg _
    rw [World.setCells, hg]
    simp
  | cons v vs ih =>
    intro o w cs hg hl
    rw [List.length_cons] at hl
    rw [World.setCells, ih (o + 1) _ _ (heap_setCell_fr w g o cs t fr v hg) (by simp; omega)]
    congr 2
    apply Array.ext'
    have h1 : o < cs.toList.length := by simp; omega
    rw [Array.toList_setIfInBounds, List.toList_toArray, List.toList_toArray, List.length_cons]
    have e1 : (cs.toList.set o v).take (o + 1) = cs.toList.take o ++ [v] := by
      rw [List.take_succ_eq_append_getElem (by simpa using h1), List.take_set_of_le (Nat.le_refl _)]
      simp
    have e2 : (cs.toList.set o v).drop (o + 1 + vs.length) = cs.toList.drop (o + 1 + vs.length) := List.drop_set_of_lt (by omega)
    rw [e1, e2, show o + (vs.length + 1) = o + 1 + vs.length by omega]
    simp [List.append_assoc]

theorem grownBy_setCells (g : Nat) : ∀ (vs : List Value) (o : Nat) (w : World), w.grownBy (w.setCells g o vs) (some g) := by
  intro vs
  induction vs with
  | nil => intro o w; exact World.grownBy.refl w _
  | cons v vs ih =>
    intro o w
    have h1 : w.grownBy (w.setCell ⟨g, o, none⟩ v) (some g) := ⟨rfl, rfl, rfl, by simp [World.setCell], fun k _ hk => heap_setCell_other w ⟨g, o, none⟩ k v (fun e => hk (by simp [e]))⟩
    exact grownBy_trans h1 (ih (o + 1) _)

theorem size50 (w : World) : (sizeOf 50).run Try.prog w = .ok 4 w := by kernel_rfl
theorem elem61 : Try.prog.elem 61 = 50 := by kernel_rfl
theorem zero50 (w : World) : (zeroValue 50).run Try.prog w = .ok (.agg #[.int .i64 0, .int .i64 0, .int .i64 0, .string ⟨#[]⟩]) w := by kernel_rfl

theorem run_slice61 (u : World) (g n cap l h m : Nat) (lo hi mx : Option Value) (hb : (Instr.sliceBounds true n cap lo hi mx).run Try.prog u = .ok (l, h, m) u) :
    (Instr.slice 61 (.slice (some ⟨g, 0, none⟩) n cap) lo hi mx).run Try.prog u = .ok (.slice (if m = l then some ⟨g, 0, none⟩ else some ⟨g, l * 4, none⟩) (h - l) (m - l)) u := by
  have e : (⟨g, 0, none⟩ : Addr).add (l * 4) = ⟨g, l * 4, none⟩ := by rw [addr0, Nat.zero_add]
  simp only [Instr.slice, run_underlying Try.underlying61, Sem.run_bind, Result.andThen_ok, hb, size50, Sem.run_pure, Option.map_some, e]


/-- A slice in a line, by its run. -/
theorem wpList_slice_run {P : Program} {w : World} {ops : Array Oper} {rest : List Oper} {o : Oper} {a : Act} {Q : Exit → Act → World → Prop} (hgd : o.guard = none) (T : TypeId) (s : Operand) (lo hi mx : Option Operand)
    (ho : o.op = .slice T s lo hi mx) (vs : Value) (vl vh vm : Option Value) (h1 : a.eval s = vs) (h2 : lo.map a.eval = vl) (h3 : hi.map a.eval = vh) (h4 : mx.map a.eval = vm) (v : Value)
    (ht : P.underlying T = some (.slice (P.elem T))) (hr : (Instr.slice T vs vl vh vm).run P w = .ok v w) (h : wpList P ops Q rest (a.put o.dst v) w) : wpList P ops Q (o :: rest) a w := by
  refine wpList_plain hgd fun K hK => ?_
  unfold Oper.wp execOp
  simp only [ho, h1, h2, h3, h4, Sem.run_bind, Sem.run_pure, run_sliceAt_slice (h := ht), Result.andThen_ok, hr]
  exact hK _ _ h

theorem yields_slice {P : Program} {ops : Array Oper} {S : World → Prop} {op : Oper} {a : Act} (hw : Region.wanted op (yielded ops a.tmps) = true) (T : TypeId) (s : Operand) (lo hi mx : Option Operand)
    (ho : op.op = .slice T s lo hi mx) (vs : Value) (vl vh vm : Option Value) (h1 : a.eval s = vs) (h2 : lo.map a.eval = vl) (h3 : hi.map a.eval = vh) (h4 : mx.map a.eval = vm) (v : Value)
    (ht : P.underlying T = some (.slice (P.elem T))) (hr : ∀ w, (Instr.slice T vs vl vh vm).run P w = .ok v w) : YieldsIf P ops S op v a :=
  .inl ⟨hw, fun w _ => by
    unfold execOp
    simp only [ho, h1, h2, h3, h4, Sem.run_bind, Sem.run_pure, run_sliceAt_slice (h := ht), Result.andThen_ok, hr]⟩

theorem wpList_clear_run {P : Program} {w w' : World} {ops : Array Oper} {rest : List Oper} {o : Oper} {a : Act} {Q : Exit → Act → World → Prop} (hgd : o.guard = none) (s : Operand) (T : TypeId)
    (ho : o.op = .call { callee := .builtin .clear, args := #[s], argTypes := #[T] }) (vs : Value) (h1 : a.eval s = vs) (v : Value)
    (hr : (Builtin.clear_ #[T] o.type #[vs]).run P w = .ok v w') (h : wpList P ops Q rest (a.put o.dst v) w') : wpList P ops Q (o :: rest) a w := by
  refine wpList_plain hgd fun K hK => ?_
  unfold Oper.wp execOp
  simp only [ho, resolve, invoke, builtin, Sem.run_bind, Sem.run_pure, Result.andThen_ok, List.map_toArray, List.map_cons, List.map_nil, h1, hr]
  exact hK _ _ h

theorem opwp_append {P : Program} {w w' : World} {o : Oper} {a : Act} {K : Act → World → Prop} {Q : Exit → Act → World → Prop} (x y : Operand) (tx ty : TypeId)
    (ho : o.op = .call { callee := .builtin .append, args := #[x, y], argTypes := #[tx, ty] }) (vx vy : Value) (hx : a.eval x = vx) (hy : a.eval y = vy) (v : Value)
    (hr : (Builtin.append_ #[tx, ty] o.type #[vx, vy]).run P w = .ok v w') (h : K (a.put o.dst v) w') : o.wp P a w K Q := by
  unfold Oper.wp execOp
  simp only [ho, resolve, invoke, builtin, Sem.run_bind, Sem.run_pure, Result.andThen_ok, List.map_toArray, List.map_cons, List.map_nil, hx, hy, hr]
  exact h

theorem bound_ok (u : World) (x y : Nat) (xi : Int) (hx : xi = (x : Int)) (h : x ≤ y) (c : BoundsCode) : (Instr.sliceBound (.int .i64 xi) y c).run Try.prog u = .ok x u := by
  subst hx
  have h1 : (0 : Int) ≤ (x : Int) ∧ (x : Int) ≤ (y : Int) := by omega
  simp [Instr.sliceBound, asIntOf, h1, h]

theorem rps_append (a b : List Rp) : rps (a ++ b) = rps a ++ rps b := by simp [rps]

set_option maxRecDepth 100000 in
set_option maxHeartbeats 4000000 in
theorem delete_any (w : World) (B g n cap k : Nat) (cur : Array Value) (l : List Rp) (hB : B ≤ g) (hg : w.heap[g]? = some (.cells cur 50 (0, 0))) (hcs : cur.size = cap * 4) (hl : l.length = n) (hcur : cur.toList.take (n * 4) = rps l) (hn : n ≤ cap) (hm : cap ≤ maxLen) (hk : k < n) :
    Calls Try.prog 38 #[.slice (some ⟨g, 0, none⟩) n cap, .int .i64 (k : Int), .int .i64 ((k : Int) + 1)] w fun e w' => e = .returned (.slice (some ⟨g, 0, none⟩) (n - 1) cap) ∧ w'.ownsRow B 50 4 (.slice (some ⟨g, 0, none⟩) (n - 1) cap) (n - 1) (rps (l.eraseIdx k)) ∧ Kp (fun q => q = g) w w' := by
  have hmi : cap ≤ 9223372036854775807 := by simpa [maxLen] using hm
  obtain ⟨n1, hn1⟩ : ∃ n1, n1 = n - 1 := ⟨_, rfl⟩
  have hnn : n = n1 + 1 := by omega
  -- the slices
  have s3 : ∀ u : World, (Instr.slice 61 (.slice (some ⟨g, 0, none⟩) n cap) (some (.int .i64 (k : Int))) (some (.int .i64 ((k : Int) + 1))) (some (.int .i64 (n : Int)))).run Try.prog u = .ok (.slice (if n = k then some ⟨g, 0, none⟩ else some ⟨g, k * 4, none⟩) (k + 1 - k) (n - k)) u := fun u =>
    run_slice61 u g n cap k (k + 1) n _ _ _ (by simp only [Instr.sliceBounds, Sem.run_bind, Option.isSome_some, if_true, bound_ok u n cap _ rfl hn, Result.andThen_ok, bound_ok u (k + 1) n ((k : Int) + 1) (by omega) (by omega), bound_ok u k (k + 1) _ rfl (by omega), Sem.run_pure])
  have s1 : ∀ u : World, (Instr.slice 61 (.slice (some ⟨g, 0, none⟩) n cap) none (some (.int .i64 (k : Int))) none).run Try.prog u = .ok (.slice (some ⟨g, 0, none⟩) k cap) u := fun u => by
    have := run_slice61 u g n cap 0 k cap none (some (.int .i64 (k : Int))) none (by simp only [Instr.sliceBounds, Sem.run_bind, Result.andThen_ok, Sem.run_pure, if_true, bound_ok u k cap _ rfl (by omega)])
    rw [this, if_neg (by omega)]
    simp
  obtain ⟨dp, hdp⟩ : ∃ dp, dp = (if cap = k + 1 then some (⟨g, 0, none⟩ : Addr) else some ⟨g, (k + 1) * 4, none⟩) := ⟨_, rfl⟩
  have s2 : ∀ u : World, (Instr.slice 61 (.slice (some ⟨g, 0, none⟩) n cap) (some (.int .i64 ((k : Int) + 1))) none none).run Try.prog u = .ok (.slice dp (n - (k + 1)) (cap - (k + 1))) u := fun u => by
    have := run_slice61 u g n cap (k + 1) n cap (some (.int .i64 ((k : Int) + 1))) none none (by simp only [Instr.sliceBounds, Sem.run_bind, Result.andThen_ok, Sem.run_pure, Option.isSome_none, Bool.false_eq_true, if_false, bound_ok u (k + 1) n ((k : Int) + 1) (by omega) (by omega)])
    rw [this, hdp]
  have s6 : ∀ u : World, (Instr.slice 61 (.slice (some ⟨g, 0, none⟩) n1 cap) (some (.int .i64 (n1 : Int))) (some (.int .i64 (n : Int))) none).run Try.prog u = .ok (.slice (some ⟨g, n1 * 4, none⟩) 1 (cap - n1)) u := fun u => by
    have := run_slice61 u g n1 cap n1 n cap (some (.int .i64 (n1 : Int))) (some (.int .i64 (n : Int))) none (by simp only [Instr.sliceBounds, Sem.run_bind, Result.andThen_ok, Sem.run_pure, Option.isSome_none, Bool.false_eq_true, if_false, if_true, bound_ok u n cap _ rfl hn, bound_ok u n1 n _ rfl (by omega)])
    rw [this, if_neg (by omega), show n - n1 = 1 by omega]
  -- the append
  obtain ⟨news, hnews⟩ : ∃ news, news = rps (l.drop (k + 1)) := ⟨_, rfl⟩
  have hnl : news.length = (n - (k + 1)) * 4 := by rw [hnews, rps_len, List.length_drop, hl]
  obtain ⟨i0, hi, hz0, hz1, hz2⟩ := info_parts info50
  have hcell : ∀ (u : World), u.heap[g]? = some (.cells cur 50 (0, 0)) → ∀ j v, cur.toList[j]? = some v → u.cell? ⟨g, j, none⟩ = some v := fun u hu j v hv => by
    rw [cell_of_row _ _ _ _ _ _ hu, ← Array.getElem?_toList]
    exact hv
  have hrest : ∀ (j : Nat) v, news[j]? = some v → cur.toList[(k + 1) * 4 + j]? = some v := fun j v hv => by
    have hj : j < news.length := (List.getElem?_eq_some_iff.1 hv).1
    have h1 : (rps l).drop ((k + 1) * 4) = news := by
      rw [hnews]
      have h3 : rps l = rps (l.take (k + 1)) ++ rps (l.drop (k + 1)) := by rw [← rps_append, List.take_append_drop]
      rw [h3]
      exact List.drop_left' (by rw [rps_len, List.length_take, hl]; omega)
    rw [← h1, List.getElem?_drop, ← hcur] at hv
    have : (k + 1) * 4 + j < n * 4 := by omega
    rwa [List.getElem?_take_of_lt this] at hv
  have happ : ∀ u : World, u.heap[g]? = some (.cells cur 50 (0, 0)) → ∀ ty, (Builtin.append_ #[61, 61] ty #[.slice (some ⟨g, 0, none⟩) k cap, .slice dp (n - (k + 1)) (cap - (k + 1))]).run Try.prog u = .ok (.slice (some ⟨g, 0, none⟩) n1 cap) (u.setCells g (k * 4) news) := fun u hu ty => by
    obtain ⟨ad, had, hsrc⟩ : ∃ ad, dp = some ad ∧ ∀ j v, news[j]? = some v → u.cell? (ad.add j) = some v := by
      by_cases h : cap = k + 1
      · refine ⟨⟨g, 0, none⟩, by rw [hdp, if_pos h], fun j v hv => ?_⟩
        have : news.length = 0 := by rw [hnl]; omega
        rw [List.length_eq_zero_iff.1 this] at hv
        simp at hv
      · refine ⟨⟨g, (k + 1) * 4, none⟩, by rw [hdp, if_neg h], fun j v hv => ?_⟩
        rw [addr0]
        exact hcell u hu _ _ (hrest j v hv)
    have h1 : ∀ v ∈ news, v.oneCell' = true := by
      intro v hv
      rw [hnews] at hv
      simp only [rps, List.mem_flatMap, rpCells] at hv
      obtain ⟨r, _, hv⟩ := hv
      simp at hv
      rcases hv with rfl | rfl | rfl | rfl <;> rfl
    have := run_append_room_cells (P := Try.prog) u 61 ty 50 i0 Try.underlying61 hi g 0 k cap ad (n - (k + 1)) (cap - (k + 1)) news (by rw [hnl, hz1]) hsrc h1 (by omega)
      (fun j hj => by
        rw [hz1, cell_of_row _ _ _ _ _ _ hu]
        have : k * 4 + j < cur.size := by omega
        simp [this]) (fun j hj => frozen_of_row _ _ _ _ _ hu)
    rw [had, this, hz1, Nat.zero_add, show k + (n - (k + 1)) = n1 by omega]
  -- what is cleared
  have hzl : ([.int .i64 0, .int .i64 0, .int .i64 0, .string ⟨#[]⟩] : List Value).length = 4 := rfl
  have hclr : ∀ (u : World) (cu : Array Value), u.heap[g]? = some (.cells cu 50 (0, 0)) → cu.size = cap * 4 → ∀ ty, (Builtin.clear_ #[61] ty #[.slice (some ⟨g, n1 * 4, none⟩) 1 (cap - n1)]).run Try.prog u = .ok (.tuple #[]) (u.setCells g (n1 * 4) [.int .i64 0, .int .i64 0, .int .i64 0, .string ⟨#[]⟩]) := fun u cu hu hcz ty => by
    have hst := run_storeCells_cells (P := Try.prog) g (n1 * 4) [.int .i64 0, .int .i64 0, .int .i64 0, .string ⟨#[]⟩] 0 u (fun j hj => by
        rw [hzl] at hj
        rw [cell_of_row _ _ _ _ _ _ hu]
        have : n1 * 4 + j < cu.size := by omega
        simp [this]) (fun j hj => frozen_of_row _ _ _ _ _ hu) (by intro v hv; simp at hv; rcases hv with rfl | rfl <;> rfl)
    simp only [Nat.add_zero] at hst
    have hz : (Builtin.zeroCells (Value.agg #[.int .i64 0, .int .i64 0, .int .i64 0, .string ⟨#[]⟩]).cells 1).toList = [.int .i64 0, .int .i64 0, .int .i64 0, .string ⟨#[]⟩] := by simp [Builtin.zeroCells, Value.cells]; rfl
    simp [Builtin.clear_, run_underlying Try.underlying61, zero50, hz, hst, Result.andThen]
  obtain ⟨v13, hv13⟩ : ∃ v13, v13 = (if n = k then some (⟨g, 0, none⟩ : Addr) else some ⟨g, k * 4, none⟩) := ⟨_, rfl⟩
  rw [← hv13] at s3
  clear hv13
  have S1 := Lib.hid s1
  have S2 := Lib.hid s2
  have S3 := Lib.hid s3
  have S6 := Lib.hid s6
  have HAPP := Lib.hid happ
  have HCLR := Lib.hid hclr
  have HG := Lib.hid hg
  have HNL := Lib.hid hnl
  have HNEWS := Lib.hid hnews
  have HCUR := Lib.hid hcur
  have HCS := Lib.hid hcs
  have HNN := Lib.hid hnn
  have HN1 := Lib.hid hn1
  have HL := Lib.hid hl
  clear hnn hn1 hl hz0 hz1 hz2
  clear s1 s2 s3 s6 happ hclr hg hnl hrest hcell hzl hdp hcur hcs hnews
  have hne : ¬ ((k : Int) = (k : Int) + 1) := by omega
  go_enter Try.func38, Try.ntmps38
  go_wp2_with (refine wpList_slice_run rfl 61 (.tmp 8) (some (.tmp 9)) (some (.tmp 10)) (some (.tmp 12)) rfl _ _ _ _ rfl rfl rfl rfl _ Try.underlying61 (S3.out _) ?_)
  refine wp_region_held_drew (S := Kp (fun q => q = g) w) (by kernel_rfl) ((Kp.drew _ _)) (fun hHeld => ?_)
  refine wpAnyH_take (i := 0) (v := ?v11) rfl (by kernel_rfl) (by kernel_rfl) (by kernel_rfl) (fun _ _ _ h => h) (Or.inl ⟨by rfl, ?y11⟩) (by assumption) ?r11
  case y11 =>
    intro wq hSw
    clear hSw
    go_simp
    with_reducible rfl
  simp only [Act.put, List.getElem_toArray, List.getElem_cons_succ, List.getElem_cons_zero, List.setIfInBounds_toArray, List.set_cons_zero, List.set_cons_succ]
  refine wpAnyH_take (i := 1) (v := ?v12) rfl (by kernel_rfl) (by kernel_rfl) (by kernel_rfl) (fun _ _ _ h => h) (Or.inl ⟨by rfl, ?y12⟩) (by assumption) ?r12
  case y12 =>
    intro wq hSw
    clear hSw
    go_simp
    with_reducible rfl
  simp only [Act.put, List.getElem_toArray, List.getElem_cons_succ, List.getElem_cons_zero, List.setIfInBounds_toArray, List.set_cons_zero, List.set_cons_succ]
  refine wpAnyH_take (i := 2) (v := _) rfl (by kernel_rfl) (by kernel_rfl) (by kernel_rfl) (fun _ _ _ h => h) (yields_slice (by rfl) 61 (.tmp 20) none (some (.tmp 21)) none rfl _ _ _ _ rfl rfl rfl rfl _ Try.underlying61 S1.out) (by assumption) ?_
  simp only [Act.put, List.getElem_toArray, List.getElem_cons_succ, List.getElem_cons_zero, List.setIfInBounds_toArray, List.set_cons_zero, List.set_cons_succ]
  refine wpAnyH_take (i := 3) (v := ?v13) rfl (by kernel_rfl) (by kernel_rfl) (by kernel_rfl) (fun _ _ _ h => h) (Or.inl ⟨by rfl, ?y13⟩) (by assumption) ?r13
  case y13 =>
    intro wq hSw
    clear hSw
    go_simp
    with_reducible rfl
  simp only [Act.put, List.getElem_toArray, List.getElem_cons_succ, List.getElem_cons_zero, List.setIfInBounds_toArray, List.set_cons_zero, List.set_cons_succ]
  refine wpAnyH_take (i := 4) (v := ?v14) rfl (by kernel_rfl) (by kernel_rfl) (by kernel_rfl) (fun _ _ _ h => h) (Or.inl ⟨by rfl, ?y14⟩) (by assumption) ?r14
  case y14 =>
    intro wq hSw
    clear hSw
    go_simp
    with_reducible rfl
  simp only [Act.put, List.getElem_toArray, List.getElem_cons_succ, List.getElem_cons_zero, List.setIfInBounds_toArray, List.set_cons_zero, List.set_cons_succ]
  refine wpAnyH_take (i := 5) (v := _) rfl (by kernel_rfl) (by kernel_rfl) (by kernel_rfl) (fun _ _ _ h => h) (yields_slice (by rfl) 61 (.tmp 23) (some (.tmp 24)) none none rfl _ _ _ _ rfl rfl rfl rfl _ Try.underlying61 S2.out) (by assumption) ?_
  simp only [Act.put, List.getElem_toArray, List.getElem_cons_succ, List.getElem_cons_zero, List.setIfInBounds_toArray, List.set_cons_zero, List.set_cons_succ]
  refine wpAnyH_ready (rs := [6]) (by kernel_rfl) (by simp) ?_
  refine AllReadyH.cons rfl (fun K hK => ?_) AllReadyH.nil
  rw [if_pos (by rfl)]
  refine opwp_append (.tmp 22) (.tmp 25) 61 61 rfl _ _ rfl rfl _ (HAPP.out w.drew HG.out _) ?_
  refine hK.out _ _ ((hHeld.trans (Kp.grown (F := fun q => q = g) (grownBy_setCells g news (k * 4) _) (fun q h => (Option.some.inj h).symm)) (fun _ h => .inl h))) (fun hHeld => ?_)
  clear hK K
  refine wpAnyH_take (i := 7) (v := ?v15) rfl (by kernel_rfl) (by kernel_rfl) (by kernel_rfl) (fun _ _ _ h => h) (Or.inl ⟨by rfl, ?y15⟩) (by assumption) ?r15
  case y15 =>
    intro wq hSw
    clear hSw
    go_simp
    with_reducible rfl
  simp only [Act.put, List.getElem_toArray, List.getElem_cons_succ, List.getElem_cons_zero, List.setIfInBounds_toArray, List.set_cons_zero, List.set_cons_succ]
  refine wpAnyH_done (by kernel_rfl) ?_ _
  have hnn := HNN.out
  have hl2 : k * 4 + news.length = n1 * 4 := by have := HNL.out; have := HN1.out; omega
  have hlc : cur.toList.length = cap * 4 := by simpa using HCS.out
  have hk4 : (cur.toList.take (k * 4)).length = k * 4 := by rw [List.length_take]; omega
  have h1 := heap_setCells g 50 (0, 0) news (k * 4) w.drew cur HG.out (by simp only [Array.length_toList] at hlc; omega)
  have hA : (cur.toList.take (k * 4) ++ news).length = n1 * 4 := by rw [List.length_append, hk4]; exact hl2
  have hB1 : cur.toList.take (k * 4) ++ news = rps (l.eraseIdx k) := by
    have h3 : cur.toList.take (k * 4) = rps (l.take k) := by
      have h4 : (cur.toList.take (n * 4)).take (k * 4) = (rps l).take (k * 4) := by rw [HCUR.out]
      rw [List.take_take, Nat.min_eq_left (by omega)] at h4
      rw [h4]
      have h5 : rps l = rps (l.take k) ++ rps (l.drop k) := by rw [← rps_append, List.take_append_drop]
      rw [h5]
      exact List.take_left' (by rw [rps_len, List.length_take, HL.out]; omega)
    rw [h3, HNEWS.out, ← rps_append, List.eraseIdx_eq_take_drop_succ]
  obtain ⟨tl, htl⟩ : ∃ tl, tl = cur.toList.drop (k * 4 + news.length) := ⟨_, rfl⟩
  have hC : tl.length = cap * 4 - n1 * 4 := by rw [htl, List.length_drop, hlc, hl2]
  rw [← htl] at h1
  rw [hB1] at h1 hA
  clear htl hB1 hk4
  have HHeld := Lib.hid hHeld
  clear hHeld
  have G1 := Lib.hid h1
  clear h1
  generalize w.drew.setCells g (k * 4) news = w1 at HHeld G1 ⊢
  obtain ⟨cells1, hcells1⟩ : ∃ c, c = (rps (l.eraseIdx k) ++ tl).toArray := ⟨_, rfl⟩
  rw [← hcells1] at G1
  have hz1' : cells1.size = cap * 4 := by rw [hcells1]; simp only [List.size_toArray, List.length_append]; omega
  have HA := Lib.hid hA
  have HZ1 := Lib.hid hz1'
  have HC1 := Lib.hid hcells1
  have HC := Lib.hid hC
  clear hA hz1' hcells1 hC hlc hl2 hnn
  go_wp2_with (first
    | (refine wpList_slice_run rfl 61 (.tmp 27) (some (.tmp 29)) (some (.tmp 30)) none rfl _ _ _ _ rfl rfl rfl rfl _ Try.underlying61 (S6.out _) ?_)
    | (refine wpList_clear_run rfl (.tmp 31) 61 rfl _ rfl _ (HCLR.out _ _ G1.out HZ1.out _) ?_))
  go_ret
  have h2 := heap_setCells g 50 (0, 0) [.int .i64 0, .int .i64 0, .int .i64 0, .string ⟨#[]⟩] (n1 * 4) _ _ G1.out (by rw [HZ1.out]; simp only [List.length_cons, List.length_nil]; have := HNN.out; omega)
  have hnn := HNN.out
  have hL1 : cells1.toList.length = cap * 4 := by simpa using HZ1.out
  have hL2 : (cells1.toList.take (n1 * 4)).length = n1 * 4 := by rw [List.length_take]; omega
  have hL3 : cells1.toList.take (n1 * 4) = rps (l.eraseIdx k) := by rw [HC1.out]; exact List.take_left' HA.out
  refine ⟨by rw [← HN1.out]; rfl, ⟨by rw [rps_len, List.length_eraseIdx, HL.out, if_pos hk], .inr ⟨g, cap, _, rfl, hB, h2, by omega, hm, ?_, ?_⟩⟩, HHeld.out.trans (Kp.grown (F := fun q => q = g) (grownBy_setCells g _ (n1 * 4) _) (fun q h => (Option.some.inj h).symm)) (fun _ h => .inl h)⟩
  · simp only [List.size_toArray, List.length_append, List.length_drop, hL2, hL1, List.length_cons, List.length_nil]; omega
  · rw [← HN1.out, List.toList_toArray, List.append_assoc, List.take_left' hL2, hL3]

end Go.Proofs.Ytlkamfmepjddkaa
