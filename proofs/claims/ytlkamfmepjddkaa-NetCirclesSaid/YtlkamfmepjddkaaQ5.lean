/- An act on both: the next reply. -/
import Derived.Test.YtlkamfmepjddkaaQ4
import Derived.Test.YtlkamfmepjddkaaWe
set_option linter.unusedSimpArgs false
set_option linter.unusedVariables false
namespace Go.Proofs.Ytlkamfmepjddkaa
open Go.RowKit Go.Lib Go.Maps

theorem wpList_alloc50 {w : World} {ops : Array Oper} {rest : List Oper} {o : Oper} {a : Act} {Q : Exit → Act → World → Prop} (hgd : o.guard = none) (ho : o.op = .alloc 50)
    (h : ∀ g w' (z : Array Value), z.size = 4 → w'.heap[g]? = some (.cells z 50 (0, 0)) → g = w.heap.size → w'.heap.size = g + 1 → Kp (fun _ => False) w w' → wpList Try.prog ops Q rest (a.put o.dst (.pointer (some ⟨g, 0, none⟩))) w') : wpList Try.prog ops Q (o :: rest) a w := by
  refine wpList_plain hgd fun K hK => ?_
  unfold Oper.wp execOp
  simp only [ho]
  go_simp
  exact hK _ _ (h _ _ _ rfl (heap_alloc_new w _) rfl (by simp) (Kp.alloc _ _ _))
theorem rpCells_one (r : Rp) : ∀ v ∈ rpCells r, v.oneCell' = true := by
  intro v hv
  simp only [rpCells, List.mem_cons, List.not_mem_nil, or_false] at hv
  rcases hv with rfl | rfl | rfl | rfl <;> rfl
theorem wpList_store50 {w : World} {ops : Array Oper} {rest : List Oper} {o : Oper} {a : Act} {Q : Exit → Act → World → Prop} (hgd : o.guard = none) (x y : Operand) (ho : o.op = .store 50 x y) (g : Nat) (m : Rp) (hx : a.eval x = .pointer (some ⟨g, 0, none⟩)) (hy : a.eval y = rpV m)
    (z : Array Value) (hg : w.heap[g]? = some (.cells z 50 (0, 0))) (hz : z.size = 4)
    (h : ∀ w', w'.heap[g]? = some (.cells (rpCells m).toArray 50 (0, 0)) → Kp (fun k => k = g) w w' → wpList Try.prog ops Q rest (a.put o.dst undef) w') : wpList Try.prog ops Q (o :: rest) a w := by
  refine wpList_store_row hgd 50 x y ho g (rpCells m).toArray hx hy 50 z hg ((by kernel_rfl : (Try.prog.info? 50).map (·.size) = some 4).trans rfl) hz (all_oneCell_toArray (rpCells_one m)) (h _ (heap_setRow_same w g z _ 50 hg) ?_)
  exact Kp.grown (grownBy_setRow w g _) fun k e => (Option.some.inj e).symm

theorem DX.cells {u : World} {B x bx : Nat} {V : NV} {R : RV} {s t : NS} {k now mir h : Int} (d : DX u B x bx V R s t k now mir h) : u.cell? ⟨x, 0, none⟩ = some (.pointer (some ⟨V.b, 0, none⟩)) ∧ u.cell? ⟨x, 1, none⟩ = some (.pointer (some ⟨R.b, 0, none⟩)) :=
  ⟨cell_of_row _ _ 0 _ _ _ d.dx, cell_of_row _ _ 1 _ _ _ d.dx⟩
theorem eqR_refl (m : Rp) : eqR m m = true := (eqR_iff m m).2 rfl
theorem yields_eqR_same {ops : Array Oper} {S : World → Prop} {op : Oper} {a : Act} (hw : Region.wanted op (yielded ops a.tmps) = true) (x y : Operand) (ho : op.op = .binOp .eql 50 x y 50) (m : Rp) (hx : a.eval x = rpV m) (hy : a.eval y = rpV m) :
    YieldsIf Try.prog ops S op (.bool true) a := by
  have := yields_eqR (S := S) hw x y ho m m hx hy
  rwa [eqR_refl] at this
theorem feet_new {w : World} {B : Nat} {V : NV} {R : RV} {s t : NS} (h : DeskP w B V R s t) {k : Nat} (hk : w.heap.size ≤ k) : ¬ V.dom k ∧ ¬ R.dom k :=
  ⟨fun h1 => by have := (h.n.dom_lt h1).2; omega, fun h1 => by have := (h.r.dom_lt h1).2; omega⟩

set_option maxRecDepth 100000 in
set_option maxHeartbeats 8000000 in
theorem do_next {w : World} {B : Nat} {V : NV} {R : RV} {s : NS} (h : DeskP w B V R s s) (k now mir hh : Int) (hk : 4 ≤ k % 6) :
    Calls Try.prog 12 #[dskV V R, actV k now mir hh] w (DoPost w B V R (nextS s)) := by
  obtain ⟨x, hx⟩ : ∃ x, x = w.heap.size := ⟨_, rfl⟩
  obtain ⟨bx, hbx⟩ : ∃ x, x = w.heap.size + 1 := ⟨_, rfl⟩
  have hd := desk_alloc h k now mir hh
  rw [← hbx, ← hx] at hd
  obtain ⟨w0, hw0⟩ : ∃ w0, w0 = (w.alloc (.cells #[.pointer (some ⟨V.b, 0, none⟩), .pointer (some ⟨R.b, 0, none⟩)] 31)).alloc (.cells #[.int .i64 k, .int .i64 now, .int .i64 mir, .int .i64 hh] 35) := ⟨_, rfl⟩
  rw [← hw0] at hd
  have K0 : Hid (Kp (fun _ => False) w w0) := Lib.hid (by rw [hw0]; exact (Kp.alloc _ _ _).trans (Kp.alloc (fun _ => False) _ _) fun _ h => h.elim)
  have s0 : w0.heap.size = w.heap.size + 2 := by rw [hw0]; simp
  have S0 := Lib.hid s0
  obtain ⟨m, hm⟩ : ∃ m : Int, m = k % 6 := ⟨_, rfl⟩
  have hm4 : 4 ≤ m := by omega
  have HM := Lib.hid hm.symm
  have HD := Lib.hid hd
  have c0 : Hid (w0.cell? ⟨bx, 0, none⟩ = some (.int .i64 k)) := Lib.hid (cell_of_row _ _ 0 _ _ _ hd.ax)
  have c1 : Hid (w0.cell? ⟨x, 0, none⟩ = some (.pointer (some ⟨V.b, 0, none⟩))) := Lib.hid (cell_of_row _ _ 0 _ _ _ hd.dx)
  have HX := Lib.hid hx
  have HBX := Lib.hid hbx
  obtain ⟨r, hr⟩ : ∃ r, r = rpV (nextR s) := ⟨_, rfl⟩
  obtain ⟨b, hbb⟩ : ∃ b, b = nextB s := ⟨_, rfl⟩
  have HRV := Lib.hid hr
  have HBB := Lib.hid hbb
  clear h hk hm hd hx hbx s0 hr hbb
  unfold dskV actV
  go_enter Try.func12, Try.ntmps12
  have d0 := c0.out
  have d1 := c1.out
  go_wp2_with fail
  rw [← HBX.out, ← HX.out, ← hw0]
  clear hw0
  go_wp2_with fail
  refine (mod_kp k 6 _ m HM.out (by omega) (by omega)).mono ?_
  rintro e w' ⟨rfl, rfl⟩
  go_wp2_with fail
  refine (next_real HD.out.d.n).mono ?_
  rintro e u1 ⟨rfl, vr1, hn1, k1, l1⟩
  rw [← HRV.out, ← HBB.out]
  have D1 := Lib.hid (HD.out.net hn1 k1 l1)
  have KA1 : Hid (Kp (feet V R) w0 u1) := Lib.hid (k1.mono fun q hq => .inl (.inl hq))
  clear hn1 k1 l1 d0 d1 c0 c1
  dsimp only
  go_wp2_with (first
    | (refine wpList_alloc50 rfl rfl ?_; intro g1 u2 z1 hz1 hg1 eg1 sg1 k2; have HZ1 := Lib.hid hz1; have HG1 := Lib.hid hg1; have EG1 := Lib.hid eg1; have K2 := Lib.hid k2; clear hz1 hg1 eg1 sg1 k2)
    | (refine wpList_store50 rfl (.tmp 6) (.tmp 43) rfl g1 (nextR s) rfl HRV.out z1 HG1.out HZ1.out ?_; intro u3 hg3 k3; have HG3 := Lib.hid hg3; have k23 := (K2.out.zero.trans k3 fun q h => .inl h : Kp (fun q => q = g1) u1 u3).mono (G := fun _ => False) (fun q h => .inr (by have := EG1.out; omega)); have D3 := Lib.hid (D1.out.keep0 k23); have K13 := Lib.hid k23; have c1 := D3.out.cells.2; clear hg3 k3 k23))
  refine (rnext_real D3.out.d.r).mono ?_
  rintro e u4 ⟨rfl, vr2, hn4, k4, l4⟩
  rw [← HRV.out, ← HBB.out]
  have D4 := Lib.hid (D3.out.ref hn4 k4 l4)
  have hg3n : ¬ R.foot g1 := fun hf => (feet_new D1.out.d (show u1.heap.size ≤ g1 by have := EG1.out; omega)).2 (RV.foot_dom hf)
  have HG4 := Lib.hid (k4.heap HG3.out hg3n)
  have KA4 : Hid (Kp (feet V R) w0 u4) := Lib.hid ((KA1.out.trans K13.out fun q (h : False) => h.elim).trans k4 fun q hq => .inl (.inr hq))
  clear hn4 k4 l4 c1 hg3n
  dsimp only
  go_wp2_with (first
    | (refine wpList_alloc50 rfl rfl ?_; intro g2 u5 z2 hz2 hg2 eg2 sg2 k5; have HZ2 := Lib.hid hz2; have HG2 := Lib.hid hg2; have EG2 := Lib.hid eg2; have K5 := Lib.hid k5; clear hz2 hg2 eg2 sg2 k5)
    | (refine wpList_store50 rfl (.tmp 8) (.tmp 49) rfl g2 (nextR s) rfl HRV.out z2 HG2.out HZ2.out ?_; intro u6 hg6 k6; have HG6 := Lib.hid hg6; have k46 := (K5.out.zero.trans k6 fun q h => .inl h : Kp (fun q => q = g2) u4 u6).mono (G := fun _ => False) (fun q h => .inr (by have := EG2.out; omega)); have D6 := Lib.hid (D4.out.keep0 k46); have KA6 := Lib.hid (KA4.out.trans k46 fun q (h : False) => h.elim); have HG7 := Lib.hid (k46.heap HG4.out (fun h => h)); clear hg6 k6 k46))
  have rg1 : Hid (u6.rangeAt g1 0 (rpCells (nextR s))) := Lib.hid (range_of_heap HG7.out)
  have rg2 : Hid (u6.rangeAt g2 0 (rpCells (nextR s))) := Lib.hid (range_of_heap HG6.out)
  have HI50 : Hid ((Try.prog.info? 50).map (·.size) = some (rpCells (nextR s)).length) := Lib.hid ((by kernel_rfl : (Try.prog.info? 50).map (·.size) = some 4).trans rfl)
  refine wp_region_held_drew (S := Kp (fun _ => False) u6) (by kernel_rfl) (Kp.drew _ _) (fun hHeld => ?_)
  refine wpAnyH_take (i := 0) (v := _) rfl (by kernel_rfl) (by kernel_rfl) (by kernel_rfl) (fun _ _ _ h => h) (yieldsIf_load_mid (by rfl) _ _ rfl _ _ rfl _ _ (fun _ h => rangeAt_kp rg1.out h (fun h => h)) Try.underlying50 rfl HI50.out) (by assumption) ?_
  simp only [Act.put, List.getElem_toArray, List.getElem_cons_succ, List.getElem_cons_zero, List.setIfInBounds_toArray, List.set_cons_zero, List.set_cons_succ]
  refine wpAnyH_take (i := 1) (v := _) rfl (by kernel_rfl) (by kernel_rfl) (by kernel_rfl) (fun _ _ _ h => h) (yieldsIf_load_mid (by rfl) _ _ rfl _ _ rfl _ _ (fun _ h => rangeAt_kp rg2.out h (fun h => h)) Try.underlying50 rfl HI50.out) (by assumption) ?_
  simp only [Act.put, List.getElem_toArray, List.getElem_cons_succ, List.getElem_cons_zero, List.setIfInBounds_toArray, List.set_cons_zero, List.set_cons_succ]
  refine wpAnyH_take (i := 2) (v := _) rfl (by kernel_rfl) (by kernel_rfl) (by kernel_rfl) (fun _ _ _ h => h) (yields_eqR_same (by rfl) _ _ rfl (nextR s) rfl rfl) (by assumption) ?_
  simp only [Act.put, List.getElem_toArray, List.getElem_cons_succ, List.getElem_cons_zero, List.setIfInBounds_toArray, List.set_cons_zero, List.set_cons_succ]
  refine wpAnyH_take (i := 3) (v := ?v1) rfl (by kernel_rfl) (by kernel_rfl) (by kernel_rfl) (fun _ _ _ h => h) (Or.inl ⟨by rfl, ?y1⟩) (by assumption) ?r1
  case y1 =>
    intro wq hSw
    clear hSw
    go_simp
    with_reducible rfl
  simp only [Act.put, List.getElem_toArray, List.getElem_cons_succ, List.getElem_cons_zero, List.setIfInBounds_toArray, List.set_cons_zero, List.set_cons_succ]
  refine wpAnyH_take (i := 4) (v := ?v2) rfl (by kernel_rfl) (by kernel_rfl) (by kernel_rfl) (fun _ _ _ h => h) (Or.inl ⟨by rfl, ?y2⟩) (by assumption) ?r2
  case y2 =>
    intro wq hSw
    clear hSw
    go_simp
    with_reducible rfl
  simp only [Act.put, List.getElem_toArray, List.getElem_cons_succ, List.getElem_cons_zero, List.setIfInBounds_toArray, List.set_cons_zero, List.set_cons_succ]
  refine wpAnyH_take (i := 5) (v := ?v3) rfl (by kernel_rfl) (by kernel_rfl) (by kernel_rfl) (fun _ _ _ h => h) (Or.inl ⟨by rfl, ?y3⟩) (by assumption) ?r3
  case y3 =>
    intro wq hSw
    clear hSw
    go_simp
    with_reducible rfl
  simp only [Act.put, List.getElem_toArray, List.getElem_cons_succ, List.getElem_cons_zero, List.setIfInBounds_toArray, List.set_cons_zero, List.set_cons_succ]
  refine wpAnyH_take (i := 6) (v := ?v4) rfl (by kernel_rfl) (by kernel_rfl) (by kernel_rfl) (fun _ _ _ h => h) (Or.inl ⟨by rfl, ?y4⟩) (by assumption) ?r4
  case y4 =>
    intro wq hSw
    clear hSw
    go_simp
    with_reducible rfl
  simp only [Act.put, List.getElem_toArray, List.getElem_cons_succ, List.getElem_cons_zero, List.setIfInBounds_toArray, List.set_cons_zero, List.set_cons_succ]
  refine wpAnyH_take (i := 7) (v := ?v5) rfl (by kernel_rfl) (by kernel_rfl) (by kernel_rfl) (fun _ _ _ h => h) (Or.inl ⟨by rfl, ?y5⟩) (by assumption) ?r5
  case y5 =>
    intro wq hSw
    clear hSw
    go_simp
    with_reducible rfl
  simp only [Act.put, List.getElem_toArray, List.getElem_cons_succ, List.getElem_cons_zero, List.setIfInBounds_toArray, List.set_cons_zero, List.set_cons_succ]
  refine wpAnyH_take (i := 8) (v := ?v6) rfl (by kernel_rfl) (by kernel_rfl) (by kernel_rfl) (fun _ _ _ h => h) (Or.inl ⟨by rfl, ?y6⟩) (by assumption) ?r6
  case y6 =>
    intro wq hSw
    clear hSw
    go_simp
    with_reducible rfl
  simp only [Act.put, List.getElem_toArray, List.getElem_cons_succ, List.getElem_cons_zero, List.setIfInBounds_toArray, List.set_cons_zero, List.set_cons_succ]
  refine wpAnyH_take (i := 9) (v := ?v7) rfl (by kernel_rfl) (by kernel_rfl) (by kernel_rfl) (fun _ _ _ h => h) (Or.inl ⟨by rfl, ?y7⟩) (by assumption) ?r7
  case y7 =>
    intro wq hSw
    clear hSw
    go_simp
    with_reducible rfl
  simp only [Act.put, List.getElem_toArray, List.getElem_cons_succ, List.getElem_cons_zero, List.setIfInBounds_toArray, List.set_cons_zero, List.set_cons_succ]
  refine wpAnyH_take (i := 10) (v := ?v8) rfl (by kernel_rfl) (by kernel_rfl) (by kernel_rfl) (fun _ _ _ h => h) (Or.inl ⟨by rfl, ?y8⟩) (by assumption) ?r8
  case y8 =>
    intro wq hSw
    have q0 := cell_of_row _ _ 0 _ _ _ (hSw.heap D6.out.dx (fun h => h))
    clear hSw
    go_simp
    with_reducible rfl
  simp only [Act.put, List.getElem_toArray, List.getElem_cons_succ, List.getElem_cons_zero, List.setIfInBounds_toArray, List.set_cons_zero, List.set_cons_succ]
  refine wpAnyH_take (i := 12) (v := ?v9) rfl (by kernel_rfl) (by kernel_rfl) (by kernel_rfl) (fun _ _ _ h => h) (Or.inl ⟨by rfl, ?y9⟩) (by assumption) ?r9
  case y9 =>
    intro wq hSw
    clear hSw
    go_simp
    with_reducible rfl
  simp only [Act.put, List.getElem_toArray, List.getElem_cons_succ, List.getElem_cons_zero, List.setIfInBounds_toArray, List.set_cons_zero, List.set_cons_succ]
  refine wpAnyH_take (i := 13) (v := ?v10) rfl (by kernel_rfl) (by kernel_rfl) (by kernel_rfl) (fun _ _ _ h => h) (Or.inl ⟨by rfl, ?y10⟩) (by assumption) ?r10
  case y10 =>
    intro wq hSw
    have q0 := cell_of_row _ _ 1 _ _ _ (hSw.heap D6.out.dx (fun h => h))
    clear hSw
    go_simp
    with_reducible rfl
  simp only [Act.put, List.getElem_toArray, List.getElem_cons_succ, List.getElem_cons_zero, List.setIfInBounds_toArray, List.set_cons_zero, List.set_cons_succ]
  refine wpAnyH_ready (rs := [11]) (by kernel_rfl) (by simp) ?_
  refine AllReadyH.cons rfl (fun K hK => ?_) AllReadyH.nil
  rw [if_pos (by rfl)]
  go_simp
  refine (waiting_any (D6.out.keep0 hHeld).d.n).mono ?_
  rintro e w' ⟨rfl, rfl⟩
  dsimp only
  refine hK.out _ _ (hHeld) (fun hHeld => ?_)
  clear hK K
  refine wpAnyH_ready (rs := [14]) (by kernel_rfl) (by simp) ?_
  refine AllReadyH.cons rfl (fun K hK => ?_) AllReadyH.nil
  rw [if_pos (by rfl)]
  go_simp
  refine (rwaiting_any (D6.out.keep0 hHeld).d.r).mono ?_
  rintro e w' ⟨rfl, rfl⟩
  dsimp only
  refine hK.out _ _ (hHeld) (fun hHeld => ?_)
  clear hK K
  refine wpAnyH_take (i := 15) (v := ?v11) rfl (by kernel_rfl) (by kernel_rfl) (by kernel_rfl) (fun _ _ _ h => h) (Or.inl ⟨by rfl, ?y11⟩) (by assumption) ?r11
  case y11 =>
    intro wq hSw
    clear hSw
    go_simp
    with_reducible rfl
  simp only [Act.put, List.getElem_toArray, List.getElem_cons_succ, List.getElem_cons_zero, List.setIfInBounds_toArray, List.set_cons_zero, List.set_cons_succ]
  refine wpAnyH_take (i := 16) (v := ?v12) rfl (by kernel_rfl) (by kernel_rfl) (by kernel_rfl) (fun _ _ _ h => h) (Or.inl ⟨by rfl, ?y12⟩) (by assumption) ?r12
  case y12 =>
    intro wq hSw
    clear hSw
    go_simp
    with_reducible rfl
  simp only [Act.put, List.getElem_toArray, List.getElem_cons_succ, List.getElem_cons_zero, List.setIfInBounds_toArray, List.set_cons_zero, List.set_cons_succ]
  refine wpAnyH_take (i := 17) (v := ?v13) rfl (by kernel_rfl) (by kernel_rfl) (by kernel_rfl) (fun _ _ _ h => h) (Or.inl ⟨by rfl, ?y13⟩) (by assumption) ?r13
  case y13 =>
    intro wq hSw
    clear hSw
    go_simp
    with_reducible rfl
  simp only [Act.put, List.getElem_toArray, List.getElem_cons_succ, List.getElem_cons_zero, List.setIfInBounds_toArray, List.set_cons_zero, List.set_cons_succ]
  refine wpAnyH_done (by kernel_rfl) ?_ _
  go_wp2_with fail
  go_ret
  have kd := Kp.drew (fun _ => False) u6
  refine ⟨rfl, vr1, vr2, (D6.out.keep0 kd).d, ?_⟩
  exact (K0.out.zero.trans KA6.out fun q hq => .inl hq).trans kd fun q hq => hq.elim

theorem do_any {w : World} {B : Nat} {V : NV} {R : RV} {s : NS} (h : DeskP w B V R s s) (k now mir hh : Int) (hn : s.n < 100000) :
    Calls Try.prog 12 #[dskV V R, actV k now mir hh] w (DoPost w B V R (if k % 6 < 4 then askS s (now.tmod 100000) (mirK mir) (hshK hh) else nextS s)) := by
  by_cases hk : k % 6 < 4
  · rw [if_pos hk]
    exact do_ask h k now mir hh hk hn
  · rw [if_neg hk]
    exact do_next h k now mir hh (by omega)

end Go.Proofs.Ytlkamfmepjddkaa
