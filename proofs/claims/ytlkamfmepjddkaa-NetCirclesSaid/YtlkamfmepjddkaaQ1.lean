/- Walk: the request of an act. -/
import Derived.Test.YtlkamfmepjddkaaW8
set_option linter.unusedSimpArgs false
set_option linter.unusedVariables false
namespace Go.Proofs.Ytlkamfmepjddkaa
open Go.RowKit Go.Lib Go.Maps

/-- The hash that begins with a byte. -/
def hashK (c : UInt8) : List UInt8 := c :: List.replicate 31 0
theorem hashK_len (c : UInt8) : (hashK c).length = 32 := rfl

theorem built44 (c : UInt8) : Try.prog.built 44 [(0, .int .u8 (c.toNat : Int))] = some (byteCells (hashK c)).toArray := by kernel_rfl
theorem built54 (c : UInt8) (b : ByteArray) : Try.prog.built 54 [(0, .agg (byteCells (hashK c)).toArray), (1, .string b)] = some (pkCells ⟨hashK c, b⟩).toArray := by kernel_rfl
theorem built46 (m : Int) (c : UInt8) : Try.prog.built 46 [(0, .int .i64 m), (1, .agg (byteCells (hashK c)).toArray)] = some (reqL m (hashK c)).toArray := by kernel_rfl

theorem yields_build {P : Program} {ops : Array Oper} {S : World → Prop} {op : Oper} {a : Act} (hw : Region.wanted op (yielded ops a.tmps) = true) (T : TypeId) (parts : Array (Nat × Operand)) (ho : op.op = .build T parts) (vs : Array (Nat × Value))
    (h1 : parts.map (fun (i, x) => (i, a.eval x)) = vs) (cs : Array Value) (hr : P.built T vs.toList = some cs) : YieldsIf P ops S op (.agg cs) a :=
  .inl ⟨hw, fun w _ => by
    unfold execOp
    simp only [ho, h1, Sem.run_bind, Sem.run_pure, Result.andThen_ok, run_build w T vs cs hr]⟩

theorem wpList_build_run {P : Program} {w : World} {ops : Array Oper} {rest : List Oper} {o : Oper} {a : Act} {Q : Exit → Act → World → Prop} (hgd : o.guard = none) (T : TypeId) (parts : Array (Nat × Operand)) (ho : o.op = .build T parts) (vs : Array (Nat × Value))
    (h1 : parts.map (fun (i, x) => (i, a.eval x)) = vs) (cs : Array Value) (hr : P.built T vs.toList = some cs) (h : wpList P ops Q rest (a.put o.dst (.agg cs)) w) : wpList P ops Q (o :: rest) a w := by
  refine wpList_plain hgd fun K hK => ?_
  unfold Oper.wp execOp
  simp only [ho, h1, Sem.run_bind, Sem.run_pure, Result.andThen_ok, run_build w T vs cs hr]
  exact hK _ _ h

theorem wpList_alloc46 {w : World} {ops : Array Oper} {rest : List Oper} {o : Oper} {a : Act} {Q : Exit → Act → World → Prop} (hgd : o.guard = none) (ho : o.op = .alloc 46)
    (h : ∀ g w' (z : Array Value), z.size = 33 → w'.heap[g]? = some (.cells z 46 (0, 0)) → g = w.heap.size → w'.heap.size = g + 1 → Kp (fun _ => False) w w' → wpList Try.prog ops Q rest (a.put o.dst (.pointer (some ⟨g, 0, none⟩))) w') : wpList Try.prog ops Q (o :: rest) a w := by
  refine wpList_plain hgd fun K hK => ?_
  unfold Oper.wp execOp
  simp only [ho]
  go_simp
  exact hK _ _ (h _ _ _ rfl (heap_alloc_new w _) rfl (by simp) (Kp.alloc _ _ _))

theorem info46s : (Try.prog.info? 46).map (·.size) = some 33 := by kernel_rfl
theorem reqL_len (m : Int) (h : List UInt8) (hh : h.length = 32) : (reqL m h).length = 33 := by simp [reqL, byteCells_length, hh]
theorem reqL_one (m : Int) (h : List UInt8) : ∀ v ∈ reqL m h, v.oneCell' = true := by
  intro v hv
  simp only [reqL, byteCells, List.mem_cons, List.mem_map] at hv
  rcases hv with rfl | ⟨_, _, rfl⟩ <;> rfl

theorem opwp_store46 {w : World} {o : Oper} {a : Act} {K : Act → World → Prop} {Q : Exit → Act → World → Prop} (x y : Operand) (ho : o.op = .store 46 x y) (g : Nat) (m : Int) (c : List UInt8) (hc : c.length = 32) (hx : a.eval x = .pointer (some ⟨g, 0, none⟩)) (hy : a.eval y = reqV m c)
    (z : Array Value) (hg : w.heap[g]? = some (.cells z 46 (0, 0))) (hz : z.size = 33)
    (h : ∀ w', w'.heap[g]? = some (.cells (reqL m c).toArray 46 (0, 0)) → Kp (fun k => k = g) w w' → K (a.put o.dst undef) w') : o.wp Try.prog a w K Q := by
  refine wp_store_row 46 x y ho g (reqL m c).toArray hx hy 46 z hg (info46s.trans (by simp [reqL_len m c hc])) (by simp [hz, reqL_len m c hc]) (all_oneCell_toArray (reqL_one m c)) (h _ (heap_setRow_same w g z _ 46 hg) ?_)
  exact Kp.grown (grownBy_setRow w g _) fun k e => (Option.some.inj e).symm
theorem wpList_store46 {w : World} {ops : Array Oper} {rest : List Oper} {o : Oper} {a : Act} {Q : Exit → Act → World → Prop} (hgd : o.guard = none) (x y : Operand) (ho : o.op = .store 46 x y) (g : Nat) (m : Int) (c : List UInt8) (hc : c.length = 32) (hx : a.eval x = .pointer (some ⟨g, 0, none⟩)) (hy : a.eval y = reqV m c)
    (z : Array Value) (hg : w.heap[g]? = some (.cells z 46 (0, 0))) (hz : z.size = 33)
    (h : ∀ w', w'.heap[g]? = some (.cells (reqL m c).toArray 46 (0, 0)) → Kp (fun k => k = g) w w' → wpList Try.prog ops Q rest (a.put o.dst undef) w') : wpList Try.prog ops Q (o :: rest) a w :=
  wpList_plain hgd fun _ hK => opwp_store46 x y ho g m c hc hx hy z hg hz fun w' h1 h2 => hK _ _ (h w' h1 h2)

theorem byte10 (h : Int) : 0 ≤ h % 10 ∧ h % 10 < 10 ∧ ((UInt8.ofNat (h % 10).toNat).toNat : Int) = h % 10 := by
  have h1 := Int.emod_nonneg h (show (10 : Int) ≠ 0 by decide)
  have h2 := Int.emod_lt_of_pos h (show (0 : Int) < 10 by decide)
  refine ⟨h1, h2, ?_⟩
  simp [UInt8.toNat_ofNat']
  omega

def mirK (m : Int) : Int := m % 7 - 1
def hshK (h : Int) : List UInt8 := hashK (UInt8.ofNat (h % 10).toNat)
def ReqPost (w : World) (mir h : Int) (e : Ending) (w' : World) : Prop := e = .returned (reqV (mirK mir) (hshK h)) ∧ Kp (fun _ => False) w w'

set_option maxRecDepth 100000 in
set_option maxHeartbeats 4000000 in
theorem request_any (k now mir h : Int) (w : World) : Calls Try.prog 15 #[.agg #[.int .i64 k, .int .i64 now, .int .i64 mir, .int .i64 h]] w (ReqPost w mir h) := by
  obtain ⟨b0, b1, b2⟩ := byte10 h
  obtain ⟨c, hc⟩ : ∃ c, c = UInt8.ofNat (h % 10).toNat := ⟨_, rfl⟩
  have HSH : Hid (hshK h = hashK c) := Lib.hid (by rw [hc]; rfl)
  rw [← hc] at b2
  obtain ⟨d, hd⟩ : ∃ d, d = h % 10 := ⟨_, rfl⟩
  obtain ⟨m, hm⟩ : ∃ m, m = mir % 7 := ⟨_, rfl⟩
  have m0 : 0 ≤ m := by omega
  have m7 : m < 7 := by omega
  rw [← hd] at b0 b1 b2
  have HD := Lib.hid hd.symm
  have HM := Lib.hid hm.symm
  have WR : Hid (IntKind.u8.wrap d = (c.toNat : Int)) := Lib.hid (by rw [b2]; simp [IntKind.wrap, IntKind.signed, IntKind.bits]; omega)
  obtain ⟨w0, hw0⟩ : ∃ w0, w0 = w.alloc (.cells #[.int .i64 k, .int .i64 now, .int .i64 mir, .int .i64 h] 35) := ⟨_, rfl⟩
  have hR : w0.heap[w.heap.size]? = some (.cells #[.int .i64 k, .int .i64 now, .int .i64 mir, .int .i64 h] 35 (0, 0)) := by rw [hw0]; exact heap_alloc_new w _
  have HR := Lib.hid hR
  have K0 : Hid (Kp (fun _ => False) w w0) := Lib.hid (by rw [hw0]; exact Kp.alloc _ _ _)
  have s0 : w0.heap.size = w.heap.size + 1 := by rw [hw0]; simp
  have S0 := Lib.hid s0
  clear hc hd hm b2 hR s0
  go_enter Try.func15, Try.ntmps15
  go_wp2_with (first | (rw [← hw0]; refine wpList_alloc46 rfl rfl ?_; intro g w1 z hz hg eg sg kg; have HZ := Lib.hid hz; have HG := Lib.hid hg; have KG := Lib.hid kg; have EG := Lib.hid eg; clear hz hg kg eg))
  have hwm : IntKind.i64.wrap (m - 1) = m - 1 := IntWalk.i64_in _ (by omega)
  refine wp_region_last (S := Kp (fun _ => False) w1) 10 (by kernel_rfl) (Kp.drew _ _) (fun hHeld => ?_)
  refine wpAnyL_take (i := 0) (v := ?v1) rfl (by kernel_rfl) (by kernel_rfl) (by kernel_rfl) (fun _ _ _ h => h) (Or.inl ⟨by rfl, ?y1⟩) (by assumption) ?r1
  case y1 =>
    intro wq hSw
    clear hSw
    go_simp
    with_reducible rfl
  simp only [Act.put, List.getElem_toArray, List.getElem_cons_succ, List.getElem_cons_zero, List.setIfInBounds_toArray, List.set_cons_zero, List.set_cons_succ]
  refine wpAnyL_take (i := 1) (v := ?v2) rfl (by kernel_rfl) (by kernel_rfl) (by kernel_rfl) (fun _ _ _ h => h) (Or.inl ⟨by rfl, ?y2⟩) (by assumption) ?r2
  case y2 =>
    intro wq hSw
    have q0 := cell_of_row _ _ 2 _ _ _ (hSw.heap (KG.out.heap HR.out (fun h => h)) (fun h => h))
    clear hSw
    go_simp
    with_reducible rfl
  simp only [Act.put, List.getElem_toArray, List.getElem_cons_succ, List.getElem_cons_zero, List.setIfInBounds_toArray, List.set_cons_zero, List.set_cons_succ]
  refine wpAnyL_take (i := 4) (v := ?v3) rfl (by kernel_rfl) (by kernel_rfl) (by kernel_rfl) (fun _ _ _ h => h) (Or.inl ⟨by rfl, ?y3⟩) (by assumption) ?r3
  case y3 =>
    intro wq hSw
    clear hSw
    go_simp
    with_reducible rfl
  simp only [Act.put, List.getElem_toArray, List.getElem_cons_succ, List.getElem_cons_zero, List.setIfInBounds_toArray, List.set_cons_zero, List.set_cons_succ]
  refine wpAnyL_take (i := 5) (v := ?v4) rfl (by kernel_rfl) (by kernel_rfl) (by kernel_rfl) (fun _ _ _ h => h) (Or.inl ⟨by rfl, ?y4⟩) (by assumption) ?r4
  case y4 =>
    intro wq hSw
    have q0 := cell_of_row _ _ 3 _ _ _ (hSw.heap (KG.out.heap HR.out (fun h => h)) (fun h => h))
    clear hSw
    go_simp
    with_reducible rfl
  simp only [Act.put, List.getElem_toArray, List.getElem_cons_succ, List.getElem_cons_zero, List.setIfInBounds_toArray, List.set_cons_zero, List.set_cons_succ]
  refine wpAnyL_one (i := 2) (by kernel_rfl) rfl (fun K hK => ?_)
  rw [if_pos (by rfl)]
  go_simp
  refine (mod_kp mir 7 _ m HM.out (by omega) (by omega)).mono ?_
  rintro e w' ⟨rfl, rfl⟩
  dsimp only
  refine hK.out _ _ (fun _ => hHeld) (fun hHeld => ?_)
  replace hHeld := hHeld (by decide)
  clear hK K
  refine wpAnyL_take (i := 3) (v := ?v5) rfl (by kernel_rfl) (by kernel_rfl) (by kernel_rfl) (fun _ _ _ h => h) (Or.inl ⟨by rfl, ?y5⟩) (by assumption) ?r5
  case y5 =>
    intro wq hSw
    clear hSw
    go_simp
    with_reducible rfl
  simp only [Act.put, List.getElem_toArray, List.getElem_cons_succ, List.getElem_cons_zero, List.setIfInBounds_toArray, List.set_cons_zero, List.set_cons_succ]
  refine wpAnyL_one (i := 6) (by kernel_rfl) rfl (fun K hK => ?_)
  rw [if_pos (by rfl)]
  go_simp
  refine (mod_kp h 10 _ d HD.out (by omega) (by omega)).mono ?_
  rintro e w' ⟨rfl, rfl⟩
  dsimp only
  refine hK.out _ _ (fun _ => hHeld) (fun hHeld => ?_)
  replace hHeld := hHeld (by decide)
  clear hK K
  refine wpAnyL_take (i := 7) (v := ?v6) rfl (by kernel_rfl) (by kernel_rfl) (by kernel_rfl) (fun _ _ _ h => h) (Or.inl ⟨by rfl, ?y6⟩) (by assumption) ?r6
  case y6 =>
    intro wq hSw
    clear hSw
    go_simp
    with_reducible rfl
  simp only [Act.put, List.getElem_toArray, List.getElem_cons_succ, List.getElem_cons_zero, List.setIfInBounds_toArray, List.set_cons_zero, List.set_cons_succ]
  refine wpAnyL_take (i := 8) (v := _) rfl (by kernel_rfl) (by kernel_rfl) (by kernel_rfl) (fun _ _ _ h => h) (yields_build (by rfl) 44 #[(0, .tmp 10)] rfl #[(0, .int .u8 (IntKind.u8.wrap d))] (by simp only [List.map_toArray, List.map_cons, List.map_nil]; rfl) _ (by rw [WR.out]; exact built44 c)) (by assumption) ?_
  simp only [Act.put, List.getElem_toArray, List.getElem_cons_succ, List.getElem_cons_zero, List.setIfInBounds_toArray, List.set_cons_zero, List.set_cons_succ]
  refine wpAnyL_take (i := 9) (v := _) rfl (by kernel_rfl) (by kernel_rfl) (by kernel_rfl) (fun _ _ _ h => h) (yields_build (by rfl) 46 #[(0, .tmp 6), (1, .tmp 11)] rfl #[(0, .int .i64 (m - 1)), (1, .agg (byteCells (hashK c)).toArray)] (by simp only [List.map_toArray, List.map_cons, List.map_nil]; rfl) _ (built46 (m - 1) c)) (by assumption) ?_
  simp only [Act.put, List.getElem_toArray, List.getElem_cons_succ, List.getElem_cons_zero, List.setIfInBounds_toArray, List.set_cons_zero, List.set_cons_succ]
  refine wpAnyL_one (i := 10) (by kernel_rfl) rfl (fun K hK => ?_)
  have KQ := Lib.hid hHeld
  rw [if_pos (by rfl)]
  refine opwp_store46 (.tmp 2) (.tmp 12) rfl g (m - 1) (hashK c) rfl rfl rfl z (KQ.out.heap HG.out (fun h => h)) HZ.out ?_
  intro wF hF kF
  have HF := Lib.hid hF
  have KF := Lib.hid kF
  refine hK.out _ _ (fun h => absurd rfl h) (fun _ => ?_)
  clear hK K
  refine wpAnyL_done (by kernel_rfl) ?_ _
  go_wp2_with fail
  refine bodyPost_ret (v := reqV (m - 1) (hashK c)) (results_cell_row rfl _ _ g 46 _ (0, 0) _ rfl HF.out Try.underlying46 rfl (info46s.trans (by simp [reqL_len _ (hashK c) rfl]))) rfl ?_
  refine ⟨by rw [HSH.out, ← HM.out]; rfl, ?_⟩
  have := S0.out
  exact ((K0.out.trans KG.out fun _ (h : False) => h.elim).trans KQ.out fun q (h : False) => h.elim).trans KF.out fun q hq => .inr (by have := EG.out; omega)

end Go.Proofs.Ytlkamfmepjddkaa
