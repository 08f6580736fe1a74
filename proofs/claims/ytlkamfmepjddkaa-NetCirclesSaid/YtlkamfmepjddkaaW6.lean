/- Walks: the bytes of the replies that a behaviour causes, in the model and in the net. -/
import Derived.Test.YtlkamfmepjddkaaW5
set_option linter.unusedSimpArgs false
set_option linter.unusedVariables false
namespace Go.Proofs.Ytlkamfmepjddkaa
open Go.RowKit Go.Lib Go.Maps

theorem heap_alloc2_new (w : World) (o p : Obj) : ((w.alloc o).alloc p).heap[w.heap.size + 1]? = some p := by
  have := heap_alloc_new (w.alloc o) p
  rwa [World.size_alloc] at this
theorem heap_alloc2_old (w : World) (o p : Obj) : ((w.alloc o).alloc p).heap[w.heap.size]? = some o := by
  rw [Below.heap_alloc (w.alloc o) p w.heap.size (by simp)]
  exact heap_alloc_new w o

/-- What the model's walk knows where it looks at the kind. -/
structure BytesAt (w w0 : World) (V : RV) (st : NS) (x : Bh) : Prop where
  k0 : Kp (fun _ => False) w w0
  b0 : w0.cell? ⟨w.heap.size, 0, none⟩ = some (.int .i64 x.k)
  b2 : w0.cell? ⟨w.heap.size, 2, none⟩ = some (.int .i64 x.n)

theorem wanted_size {st : NS} (hk : NOk st) (h : List UInt8) : (wantedS st.packets h).size ≤ 100 := by
  have : ∀ l : List Pk, (∀ p ∈ l, p.h.length = 32 ∧ p.b.size ≤ 100) → (wantedS l h).size ≤ 100 := by
    intro l
    induction l with
    | nil => intro _; exact Nat.zero_le _
    | cons p l ih =>
      intro hp
      rw [wantedS]
      split
      · exact (hp p (by simp)).2
      · exact ih fun q hq => hp q (by simp [hq])
  exact this _ hk.hp

set_option maxRecDepth 100000 in
set_option maxHeartbeats 4000000 in
theorem rbytes_honest {w : World} {B : Nat} {V : RV} {st : NS} (hR : RefP w B V st) (k d n : Int) (h : List UInt8) (hh : h.length = 32) :
    Calls Try.prog 39 #[.pointer (some ⟨V.b, 0, none⟩), .agg #[.int .i64 1, .int .i64 d, .int .i64 n], .agg (byteCells h).toArray] w (SPost w [wantedS st.packets h]) := by
  obtain ⟨sp, cap, hv, _, _, hs, _⟩ := Src.of_own hR.pk
  obtain ⟨so, co, hvo, _, _, hso, _⟩ := Src.of_own hR.old
  obtain ⟨c0, c1, c2, c3, c4, c5, cf⟩ := obj_cells hR.obj
  rw [hv] at c0
  rw [hvo] at c1
  have HC0 := Lib.hid c0
  have HC1 := Lib.hid c1
  have HS := Lib.hid hs
  have HSO := Lib.hid hso
  have HO := Lib.hid hR.ok
  have HR := Lib.hid hR
  clear c0 c1 c2 c3 c4 c5 cf hv hvo hs hso
  have HI : Hid ((Try.prog.info? 44).map (·.size) = some (byteCells h).toArray.size) := Lib.hid (info44.trans (by simp [byteCells, hh]))
  clear hR
  go_enter Try.func39, Try.ntmps39
  go_wp2_with (refine wpList_load_row rfl 44 (.tmp 5) rfl (w.heap.size + 1) rfl 44 _ (0, 0) _ (heap_alloc2_new w _ _) Try.underlying44 rfl HI.out ?_)
  obtain ⟨w0, hw0⟩ : ∃ w0, w0 = (w.alloc (.cells #[.int .i64 1, .int .i64 d, .int .i64 n] 42)).alloc (.cells (byteCells h).toArray 44) := ⟨_, rfl⟩
  have K0 : Hid (Kp (fun _ => False) w w0) := Lib.hid (by rw [hw0]; exact (Kp.alloc _ _ _).trans (Kp.alloc (fun _ => False) _ _) fun _ h => h.elim)
  have B0 : Hid (w0.heap[w.heap.size]? = some (.cells #[.int .i64 1, .int .i64 d, .int .i64 n] 42 (0, 0))) := Lib.hid (by rw [hw0]; exact heap_alloc2_old w _ _)
  have B1 : Hid (w0.heap[w.heap.size + 1]? = some (.cells (byteCells h).toArray 44 (0, 0))) := Lib.hid (by rw [hw0]; exact heap_alloc2_new w _ _)
  rw [← hw0]
  clear hw0
  refine (wanted_any (HR.out.keep0 K0.out) h hh).mono ?_
  rintro e w1 ⟨rfl, k1⟩
  obtain ⟨S, hS⟩ : ∃ S, wantedS st.packets h = S := ⟨_, rfl⟩
  have hSz : S.size ≤ 100 := by rw [← hS]; exact wanted_size HO.out h
  have K1 := Lib.hid (K0.out.trans k1 fun _ h => h.elim)
  have b2 := k1.heap B0.out (fun h => h)
  have d0 : w1.cell? ⟨w.heap.size, 0, none⟩ = some (.int .i64 1) := cell_of_row _ _ 0 _ _ _ b2
  have d2 : w1.cell? ⟨w.heap.size, 2, none⟩ = some (.int .i64 n) := cell_of_row _ _ 2 _ _ _ b2
  rw [hS]
  have HD2 := Lib.hid d2
  have HSW := Lib.hid hS
  clear b2 k1 hS
  go_wp2_with fail
  go_ret
  refine ⟨_, rfl, (by rw [HSW.out]; exact strs1 _ _), K1.out.trans (Kp.alloc (fun _ => False) _ _) fun _ h => h.elim⟩
set_option maxRecDepth 100000 in
set_option maxHeartbeats 4000000 in
theorem rbytes_twofold {w : World} {B : Nat} {V : RV} {st : NS} (hR : RefP w B V st) (k d n : Int) (h : List UInt8) (hh : h.length = 32) :
    Calls Try.prog 39 #[.pointer (some ⟨V.b, 0, none⟩), .agg #[.int .i64 5, .int .i64 d, .int .i64 n], .agg (byteCells h).toArray] w (SPost w [wantedS st.packets h, wantedS st.packets h]) := by
  obtain ⟨sp, cap, hv, _, _, hs, _⟩ := Src.of_own hR.pk
  obtain ⟨so, co, hvo, _, _, hso, _⟩ := Src.of_own hR.old
  obtain ⟨c0, c1, c2, c3, c4, c5, cf⟩ := obj_cells hR.obj
  rw [hv] at c0
  rw [hvo] at c1
  have HC0 := Lib.hid c0
  have HC1 := Lib.hid c1
  have HS := Lib.hid hs
  have HSO := Lib.hid hso
  have HO := Lib.hid hR.ok
  have HR := Lib.hid hR
  clear c0 c1 c2 c3 c4 c5 cf hv hvo hs hso
  have HI : Hid ((Try.prog.info? 44).map (·.size) = some (byteCells h).toArray.size) := Lib.hid (info44.trans (by simp [byteCells, hh]))
  clear hR
  go_enter Try.func39, Try.ntmps39
  go_wp2_with (refine wpList_load_row rfl 44 (.tmp 5) rfl (w.heap.size + 1) rfl 44 _ (0, 0) _ (heap_alloc2_new w _ _) Try.underlying44 rfl HI.out ?_)
  obtain ⟨w0, hw0⟩ : ∃ w0, w0 = (w.alloc (.cells #[.int .i64 5, .int .i64 d, .int .i64 n] 42)).alloc (.cells (byteCells h).toArray 44) := ⟨_, rfl⟩
  have K0 : Hid (Kp (fun _ => False) w w0) := Lib.hid (by rw [hw0]; exact (Kp.alloc _ _ _).trans (Kp.alloc (fun _ => False) _ _) fun _ h => h.elim)
  have B0 : Hid (w0.heap[w.heap.size]? = some (.cells #[.int .i64 5, .int .i64 d, .int .i64 n] 42 (0, 0))) := Lib.hid (by rw [hw0]; exact heap_alloc2_old w _ _)
  have B1 : Hid (w0.heap[w.heap.size + 1]? = some (.cells (byteCells h).toArray 44 (0, 0))) := Lib.hid (by rw [hw0]; exact heap_alloc2_new w _ _)
  rw [← hw0]
  clear hw0
  refine (wanted_any (HR.out.keep0 K0.out) h hh).mono ?_
  rintro e w1 ⟨rfl, k1⟩
  obtain ⟨S, hS⟩ : ∃ S, wantedS st.packets h = S := ⟨_, rfl⟩
  have hSz : S.size ≤ 100 := by rw [← hS]; exact wanted_size HO.out h
  have K1 := Lib.hid (K0.out.trans k1 fun _ h => h.elim)
  have b2 := k1.heap B0.out (fun h => h)
  have d0 : w1.cell? ⟨w.heap.size, 0, none⟩ = some (.int .i64 5) := cell_of_row _ _ 0 _ _ _ b2
  have d2 : w1.cell? ⟨w.heap.size, 2, none⟩ = some (.int .i64 n) := cell_of_row _ _ 2 _ _ _ b2
  rw [hS]
  have HD2 := Lib.hid d2
  have HSW := Lib.hid hS
  clear b2 k1 hS
  go_wp2_with fail
  go_ret
  refine ⟨_, rfl, (by rw [HSW.out]; exact strs2 _ _ _), K1.out.trans (Kp.alloc (fun _ => False) _ _) fun _ h => h.elim⟩
set_option maxRecDepth 100000 in
set_option maxHeartbeats 4000000 in
theorem rbytes_short {w : World} {B : Nat} {V : RV} {st : NS} (hR : RefP w B V st) (k d n : Int) (h : List UInt8) (hh : h.length = 32) :
    Calls Try.prog 39 #[.pointer (some ⟨V.b, 0, none⟩), .agg #[.int .i64 4, .int .i64 d, .int .i64 n], .agg (byteCells h).toArray] w (SPost w [shortS (wantedS st.packets h) n]) := by
  obtain ⟨sp, cap, hv, _, _, hs, _⟩ := Src.of_own hR.pk
  obtain ⟨so, co, hvo, _, _, hso, _⟩ := Src.of_own hR.old
  obtain ⟨c0, c1, c2, c3, c4, c5, cf⟩ := obj_cells hR.obj
  rw [hv] at c0
  rw [hvo] at c1
  have HC0 := Lib.hid c0
  have HC1 := Lib.hid c1
  have HS := Lib.hid hs
  have HSO := Lib.hid hso
  have HO := Lib.hid hR.ok
  have HR := Lib.hid hR
  clear c0 c1 c2 c3 c4 c5 cf hv hvo hs hso
  have HI : Hid ((Try.prog.info? 44).map (·.size) = some (byteCells h).toArray.size) := Lib.hid (info44.trans (by simp [byteCells, hh]))
  clear hR
  go_enter Try.func39, Try.ntmps39
  go_wp2_with (refine wpList_load_row rfl 44 (.tmp 5) rfl (w.heap.size + 1) rfl 44 _ (0, 0) _ (heap_alloc2_new w _ _) Try.underlying44 rfl HI.out ?_)
  obtain ⟨w0, hw0⟩ : ∃ w0, w0 = (w.alloc (.cells #[.int .i64 4, .int .i64 d, .int .i64 n] 42)).alloc (.cells (byteCells h).toArray 44) := ⟨_, rfl⟩
  have K0 : Hid (Kp (fun _ => False) w w0) := Lib.hid (by rw [hw0]; exact (Kp.alloc _ _ _).trans (Kp.alloc (fun _ => False) _ _) fun _ h => h.elim)
  have B0 : Hid (w0.heap[w.heap.size]? = some (.cells #[.int .i64 4, .int .i64 d, .int .i64 n] 42 (0, 0))) := Lib.hid (by rw [hw0]; exact heap_alloc2_old w _ _)
  have B1 : Hid (w0.heap[w.heap.size + 1]? = some (.cells (byteCells h).toArray 44 (0, 0))) := Lib.hid (by rw [hw0]; exact heap_alloc2_new w _ _)
  rw [← hw0]
  clear hw0
  refine (wanted_any (HR.out.keep0 K0.out) h hh).mono ?_
  rintro e w1 ⟨rfl, k1⟩
  obtain ⟨S, hS⟩ : ∃ S, wantedS st.packets h = S := ⟨_, rfl⟩
  have hSz : S.size ≤ 100 := by rw [← hS]; exact wanted_size HO.out h
  have K1 := Lib.hid (K0.out.trans k1 fun _ h => h.elim)
  have b2 := k1.heap B0.out (fun h => h)
  have d0 : w1.cell? ⟨w.heap.size, 0, none⟩ = some (.int .i64 4) := cell_of_row _ _ 0 _ _ _ b2
  have d2 : w1.cell? ⟨w.heap.size, 2, none⟩ = some (.int .i64 n) := cell_of_row _ _ 2 _ _ _ b2
  rw [hS]
  have HD2 := Lib.hid d2
  have HSW := Lib.hid hS
  clear b2 k1 hS
  obtain ⟨j, hj⟩ : ∃ j : Nat, min (max n 0) (S.size : Int) = (j : Int) := ⟨(min (max n 0) (S.size : Int)).toNat, by omega⟩
  have hj2 : j ≤ S.size := by omega
  have E : Hid (S.extract 0 j = shortS S n) := Lib.hid (by unfold shortS; rw [show ((min (max n 0) ((S.size : Nat) : Int))).toNat = j by omega])
  have HJ := Lib.hid hj
  clear hj
  go_wp2_with (first
    | (refine wpList_max rfl (.tmp 31) (.const (.int .i64 0)) #[3, 3] rfl .i64 _ _ (max n 0) rfl rfl rfl ?_)
    | (refine wpList_min rfl (.tmp 32) (.tmp 34) #[3, 3] rfl .i64 _ _ (j : Int) rfl rfl HJ.out.symm ?_))
  rw [E.out]
  go_ret
  refine ⟨_, rfl, (by rw [HSW.out]; exact strs1 _ _), K1.out.trans (Kp.alloc (fun _ => False) _ _) fun _ h => h.elim⟩
set_option maxRecDepth 100000 in
set_option maxHeartbeats 4000000 in
theorem rbytes_forge {w : World} {B : Nat} {V : RV} {st : NS} (hR : RefP w B V st) (k d n : Int) (h : List UInt8) (hh : h.length = 32) :
    Calls Try.prog 39 #[.pointer (some ⟨V.b, 0, none⟩), .agg #[.int .i64 7, .int .i64 d, .int .i64 n], .agg (byteCells h).toArray] w (SPost w [forgedS (wantedS st.packets h) n]) := by
  obtain ⟨sp, cap, hv, _, _, hs, _⟩ := Src.of_own hR.pk
  obtain ⟨so, co, hvo, _, _, hso, _⟩ := Src.of_own hR.old
  obtain ⟨c0, c1, c2, c3, c4, c5, cf⟩ := obj_cells hR.obj
  rw [hv] at c0
  rw [hvo] at c1
  have HC0 := Lib.hid c0
  have HC1 := Lib.hid c1
  have HS := Lib.hid hs
  have HSO := Lib.hid hso
  have HO := Lib.hid hR.ok
  have HR := Lib.hid hR
  clear c0 c1 c2 c3 c4 c5 cf hv hvo hs hso
  have HI : Hid ((Try.prog.info? 44).map (·.size) = some (byteCells h).toArray.size) := Lib.hid (info44.trans (by simp [byteCells, hh]))
  clear hR
  go_enter Try.func39, Try.ntmps39
  go_wp2_with (refine wpList_load_row rfl 44 (.tmp 5) rfl (w.heap.size + 1) rfl 44 _ (0, 0) _ (heap_alloc2_new w _ _) Try.underlying44 rfl HI.out ?_)
  obtain ⟨w0, hw0⟩ : ∃ w0, w0 = (w.alloc (.cells #[.int .i64 7, .int .i64 d, .int .i64 n] 42)).alloc (.cells (byteCells h).toArray 44) := ⟨_, rfl⟩
  have K0 : Hid (Kp (fun _ => False) w w0) := Lib.hid (by rw [hw0]; exact (Kp.alloc _ _ _).trans (Kp.alloc (fun _ => False) _ _) fun _ h => h.elim)
  have B0 : Hid (w0.heap[w.heap.size]? = some (.cells #[.int .i64 7, .int .i64 d, .int .i64 n] 42 (0, 0))) := Lib.hid (by rw [hw0]; exact heap_alloc2_old w _ _)
  have B1 : Hid (w0.heap[w.heap.size + 1]? = some (.cells (byteCells h).toArray 44 (0, 0))) := Lib.hid (by rw [hw0]; exact heap_alloc2_new w _ _)
  rw [← hw0]
  clear hw0
  refine (wanted_any (HR.out.keep0 K0.out) h hh).mono ?_
  rintro e w1 ⟨rfl, k1⟩
  obtain ⟨S, hS⟩ : ∃ S, wantedS st.packets h = S := ⟨_, rfl⟩
  have hSz : S.size ≤ 100 := by rw [← hS]; exact wanted_size HO.out h
  have K1 := Lib.hid (K0.out.trans k1 fun _ h => h.elim)
  have b2 := k1.heap B0.out (fun h => h)
  have d0 : w1.cell? ⟨w.heap.size, 0, none⟩ = some (.int .i64 7) := cell_of_row _ _ 0 _ _ _ b2
  have d2 : w1.cell? ⟨w.heap.size, 2, none⟩ = some (.int .i64 n) := cell_of_row _ _ 2 _ _ _ b2
  rw [hS]
  have HD2 := Lib.hid d2
  have HSW := Lib.hid hS
  clear b2 k1 hS
  go_wp2_with fail
  refine (forged_any S n w1 (by omega)).mono ?_
  rintro e w2 ⟨rfl, k2⟩
  have K2 := Lib.hid (K1.out.trans k2 fun _ h => h.elim)
  clear k2
  go_wp2_with fail
  go_ret
  refine ⟨_, rfl, (by rw [HSW.out]; exact strs1 _ _), K2.out.trans (Kp.alloc (fun _ => False) _ _) fun _ h => h.elim⟩
set_option maxRecDepth 100000 in
set_option maxHeartbeats 4000000 in
theorem rbytes_stale {w : World} {B : Nat} {V : RV} {st : NS} (hR : RefP w B V st) (k d n : Int) (h : List UInt8) (hh : h.length = 32) :
    Calls Try.prog 39 #[.pointer (some ⟨V.b, 0, none⟩), .agg #[.int .i64 3, .int .i64 d, .int .i64 n], .agg (byteCells h).toArray] w (SPost w [circleS st.old n]) := by
  obtain ⟨sp, cap, hv, _, _, hs, _⟩ := Src.of_own hR.pk
  obtain ⟨so, co, hvo, _, _, hso, _⟩ := Src.of_own hR.old
  obtain ⟨c0, c1, c2, c3, c4, c5, cf⟩ := obj_cells hR.obj
  rw [hv] at c0
  rw [hvo] at c1
  have HC0 := Lib.hid c0
  have HC1 := Lib.hid c1
  have HS := Lib.hid hs
  have HSO := Lib.hid hso
  have HO := Lib.hid hR.ok
  have HR := Lib.hid hR
  clear c0 c1 c2 c3 c4 c5 cf hv hvo hs hso
  have HI : Hid ((Try.prog.info? 44).map (·.size) = some (byteCells h).toArray.size) := Lib.hid (info44.trans (by simp [byteCells, hh]))
  clear hR
  go_enter Try.func39, Try.ntmps39
  go_wp2_with (refine wpList_load_row rfl 44 (.tmp 5) rfl (w.heap.size + 1) rfl 44 _ (0, 0) _ (heap_alloc2_new w _ _) Try.underlying44 rfl HI.out ?_)
  obtain ⟨w0, hw0⟩ : ∃ w0, w0 = (w.alloc (.cells #[.int .i64 3, .int .i64 d, .int .i64 n] 42)).alloc (.cells (byteCells h).toArray 44) := ⟨_, rfl⟩
  have K0 : Hid (Kp (fun _ => False) w w0) := Lib.hid (by rw [hw0]; exact (Kp.alloc _ _ _).trans (Kp.alloc (fun _ => False) _ _) fun _ h => h.elim)
  have B0 : Hid (w0.heap[w.heap.size]? = some (.cells #[.int .i64 3, .int .i64 d, .int .i64 n] 42 (0, 0))) := Lib.hid (by rw [hw0]; exact heap_alloc2_old w _ _)
  have B1 : Hid (w0.heap[w.heap.size + 1]? = some (.cells (byteCells h).toArray 44 (0, 0))) := Lib.hid (by rw [hw0]; exact heap_alloc2_new w _ _)
  rw [← hw0]
  clear hw0
  refine (wanted_any (HR.out.keep0 K0.out) h hh).mono ?_
  rintro e w1 ⟨rfl, k1⟩
  obtain ⟨S, hS⟩ : ∃ S, wantedS st.packets h = S := ⟨_, rfl⟩
  have hSz : S.size ≤ 100 := by rw [← hS]; exact wanted_size HO.out h
  have K1 := Lib.hid (K0.out.trans k1 fun _ h => h.elim)
  have b2 := k1.heap B0.out (fun h => h)
  have d0 : w1.cell? ⟨w.heap.size, 0, none⟩ = some (.int .i64 3) := cell_of_row _ _ 0 _ _ _ b2
  have d2 : w1.cell? ⟨w.heap.size, 2, none⟩ = some (.int .i64 n) := cell_of_row _ _ 2 _ _ _ b2
  rw [hS]
  have HD2 := Lib.hid d2
  have HSW := Lib.hid hS
  clear b2 k1 hS
  go_wp2_with fail
  refine wp_region_held_drew (S := Kp (fun _ => False) w1) (by kernel_rfl) (Kp.drew _ _) (fun hHeld => ?_)
  refine wpAnyH_take (i := 0) (v := ?v1) rfl (by kernel_rfl) (by kernel_rfl) (by kernel_rfl) (fun _ _ _ h => h) (Or.inl ⟨by rfl, ?y1⟩) (by assumption) ?r1
  case y1 =>
    intro wq hSw
    clear hSw
    go_simp
    with_reducible rfl
  simp only [Act.put, List.getElem_toArray, List.getElem_cons_succ, List.getElem_cons_zero, List.setIfInBounds_toArray, List.set_cons_zero, List.set_cons_succ]
  refine wpAnyH_take (i := 1) (v := ?v2) rfl (by kernel_rfl) (by kernel_rfl) (by kernel_rfl) (fun _ _ _ h => h) (Or.inl ⟨by rfl, ?y2⟩) (by assumption) ?r2
  case y2 =>
    intro wq hSw
    clear hSw
    go_simp
    with_reducible rfl
  simp only [Act.put, List.getElem_toArray, List.getElem_cons_succ, List.getElem_cons_zero, List.setIfInBounds_toArray, List.set_cons_zero, List.set_cons_succ]
  refine wpAnyH_take (i := 2) (v := ?v3) rfl (by kernel_rfl) (by kernel_rfl) (by kernel_rfl) (fun _ _ _ h => h) (Or.inl ⟨by rfl, ?y3⟩) (by assumption) ?r3
  case y3 =>
    intro wq hSw
    clear hSw
    go_simp
    with_reducible rfl
  simp only [Act.put, List.getElem_toArray, List.getElem_cons_succ, List.getElem_cons_zero, List.setIfInBounds_toArray, List.set_cons_zero, List.set_cons_succ]
  refine wpAnyH_take (i := 3) (v := ?v4) rfl (by kernel_rfl) (by kernel_rfl) (by kernel_rfl) (fun _ _ _ h => h) (Or.inl ⟨by rfl, ?y4⟩) (by assumption) ?r4
  case y4 =>
    intro wq hSw
    have q0 := (K1.out.trans hSw fun _ (h : False) => h.elim).cell HC1.out (fun h => h)
    clear hSw
    go_simp
    with_reducible rfl
  simp only [Act.put, List.getElem_toArray, List.getElem_cons_succ, List.getElem_cons_zero, List.setIfInBounds_toArray, List.set_cons_zero, List.set_cons_succ]
  refine wpAnyH_take (i := 4) (v := ?v5) rfl (by kernel_rfl) (by kernel_rfl) (by kernel_rfl) (fun _ _ _ h => h) (Or.inl ⟨by rfl, ?y5⟩) (by assumption) ?r5
  case y5 =>
    intro wq hSw
    clear hSw
    go_simp
    with_reducible rfl
  simp only [Act.put, List.getElem_toArray, List.getElem_cons_succ, List.getElem_cons_zero, List.setIfInBounds_toArray, List.set_cons_zero, List.set_cons_succ]
  refine wpAnyH_take (i := 5) (v := ?v6) rfl (by kernel_rfl) (by kernel_rfl) (by kernel_rfl) (fun _ _ _ h => h) (Or.inl ⟨by rfl, ?y6⟩) (by assumption) ?r6
  case y6 =>
    intro wq hSw
    have q2 := hSw.cell HD2.out (fun h => h)
    clear hSw
    go_simp
    with_reducible rfl
  simp only [Act.put, List.getElem_toArray, List.getElem_cons_succ, List.getElem_cons_zero, List.setIfInBounds_toArray, List.set_cons_zero, List.set_cons_succ]
  refine wpAnyH_ready (rs := [6]) (by kernel_rfl) (by simp) ?_
  refine AllReadyH.cons rfl (fun K hK => ?_) AllReadyH.nil
  rw [if_pos (by rfl)]
  go_simp
  refine (circle_any so co st.old n _ (HSO.out.keep0 (K1.out.trans hHeld fun _ (h : False) => h.elim)) HO.out.ho HO.out.lo).mono ?_
  rintro e w' ⟨rfl, rfl⟩
  dsimp only
  refine hK.out _ _ (hHeld) (fun hHeld => ?_)
  clear hK K
  refine wpAnyH_ready (rs := [7]) (by kernel_rfl) (by simp) ?_
  refine AllReadyH.cons rfl (fun K hK => ?_) AllReadyH.nil
  rw [if_pos (by rfl)]
  go_simp
  refine hK.out _ _ (hHeld.trans (Kp.alloc (fun _ => False) _ _) fun _ (h : False) => h.elim) (fun hHeld => ?_)
  clear hK K
  refine wpAnyH_take (i := 8) (v := ?v7) rfl (by kernel_rfl) (by kernel_rfl) (by kernel_rfl) (fun _ _ _ h => h) (Or.inl ⟨by rfl, ?y7⟩) (by assumption) ?r7
  case y7 =>
    intro wq hSw
    clear hSw
    go_simp
    with_reducible rfl
  simp only [Act.put, List.getElem_toArray, List.getElem_cons_succ, List.getElem_cons_zero, List.setIfInBounds_toArray, List.set_cons_zero, List.set_cons_succ]
  refine wpAnyH_done (by kernel_rfl) ?_ _
  go_wp2_with fail
  have hf := hHeld
  go_ret
  refine ⟨_, rfl, (strs1 _ _), K1.out.trans hf fun _ h => h.elim⟩
set_option maxRecDepth 100000 in
set_option maxHeartbeats 4000000 in
theorem rbytes_exchange {w : World} {B : Nat} {V : RV} {st : NS} (hR : RefP w B V st) (k d n : Int) (h : List UInt8) (hh : h.length = 32) :
    Calls Try.prog 39 #[.pointer (some ⟨V.b, 0, none⟩), .agg #[.int .i64 6, .int .i64 d, .int .i64 n], .agg (byteCells h).toArray] w (SPost w [circleS st.packets n]) := by
  obtain ⟨sp, cap, hv, _, _, hs, _⟩ := Src.of_own hR.pk
  obtain ⟨so, co, hvo, _, _, hso, _⟩ := Src.of_own hR.old
  obtain ⟨c0, c1, c2, c3, c4, c5, cf⟩ := obj_cells hR.obj
  rw [hv] at c0
  rw [hvo] at c1
  have HC0 := Lib.hid c0
  have HC1 := Lib.hid c1
  have HS := Lib.hid hs
  have HSO := Lib.hid hso
  have HO := Lib.hid hR.ok
  have HR := Lib.hid hR
  clear c0 c1 c2 c3 c4 c5 cf hv hvo hs hso
  have HI : Hid ((Try.prog.info? 44).map (·.size) = some (byteCells h).toArray.size) := Lib.hid (info44.trans (by simp [byteCells, hh]))
  clear hR
  go_enter Try.func39, Try.ntmps39
  go_wp2_with (refine wpList_load_row rfl 44 (.tmp 5) rfl (w.heap.size + 1) rfl 44 _ (0, 0) _ (heap_alloc2_new w _ _) Try.underlying44 rfl HI.out ?_)
  obtain ⟨w0, hw0⟩ : ∃ w0, w0 = (w.alloc (.cells #[.int .i64 6, .int .i64 d, .int .i64 n] 42)).alloc (.cells (byteCells h).toArray 44) := ⟨_, rfl⟩
  have K0 : Hid (Kp (fun _ => False) w w0) := Lib.hid (by rw [hw0]; exact (Kp.alloc _ _ _).trans (Kp.alloc (fun _ => False) _ _) fun _ h => h.elim)
  have B0 : Hid (w0.heap[w.heap.size]? = some (.cells #[.int .i64 6, .int .i64 d, .int .i64 n] 42 (0, 0))) := Lib.hid (by rw [hw0]; exact heap_alloc2_old w _ _)
  have B1 : Hid (w0.heap[w.heap.size + 1]? = some (.cells (byteCells h).toArray 44 (0, 0))) := Lib.hid (by rw [hw0]; exact heap_alloc2_new w _ _)
  rw [← hw0]
  clear hw0
  refine (wanted_any (HR.out.keep0 K0.out) h hh).mono ?_
  rintro e w1 ⟨rfl, k1⟩
  obtain ⟨S, hS⟩ : ∃ S, wantedS st.packets h = S := ⟨_, rfl⟩
  have hSz : S.size ≤ 100 := by rw [← hS]; exact wanted_size HO.out h
  have K1 := Lib.hid (K0.out.trans k1 fun _ h => h.elim)
  have b2 := k1.heap B0.out (fun h => h)
  have d0 : w1.cell? ⟨w.heap.size, 0, none⟩ = some (.int .i64 6) := cell_of_row _ _ 0 _ _ _ b2
  have d2 : w1.cell? ⟨w.heap.size, 2, none⟩ = some (.int .i64 n) := cell_of_row _ _ 2 _ _ _ b2
  rw [hS]
  have HD2 := Lib.hid d2
  have HSW := Lib.hid hS
  clear b2 k1 hS
  go_wp2_with fail
  refine wp_region_held_drew (S := Kp (fun _ => False) w1) (by kernel_rfl) (Kp.drew _ _) (fun hHeld => ?_)
  refine wpAnyH_take (i := 0) (v := ?v8) rfl (by kernel_rfl) (by kernel_rfl) (by kernel_rfl) (fun _ _ _ h => h) (Or.inl ⟨by rfl, ?y8⟩) (by assumption) ?r8
  case y8 =>
    intro wq hSw
    clear hSw
    go_simp
    with_reducible rfl
  simp only [Act.put, List.getElem_toArray, List.getElem_cons_succ, List.getElem_cons_zero, List.setIfInBounds_toArray, List.set_cons_zero, List.set_cons_succ]
  refine wpAnyH_take (i := 1) (v := ?v9) rfl (by kernel_rfl) (by kernel_rfl) (by kernel_rfl) (fun _ _ _ h => h) (Or.inl ⟨by rfl, ?y9⟩) (by assumption) ?r9
  case y9 =>
    intro wq hSw
    clear hSw
    go_simp
    with_reducible rfl
  simp only [Act.put, List.getElem_toArray, List.getElem_cons_succ, List.getElem_cons_zero, List.setIfInBounds_toArray, List.set_cons_zero, List.set_cons_succ]
  refine wpAnyH_take (i := 2) (v := ?v10) rfl (by kernel_rfl) (by kernel_rfl) (by kernel_rfl) (fun _ _ _ h => h) (Or.inl ⟨by rfl, ?y10⟩) (by assumption) ?r10
  case y10 =>
    intro wq hSw
    clear hSw
    go_simp
    with_reducible rfl
  simp only [Act.put, List.getElem_toArray, List.getElem_cons_succ, List.getElem_cons_zero, List.setIfInBounds_toArray, List.set_cons_zero, List.set_cons_succ]
  refine wpAnyH_take (i := 3) (v := ?v11) rfl (by kernel_rfl) (by kernel_rfl) (by kernel_rfl) (fun _ _ _ h => h) (Or.inl ⟨by rfl, ?y11⟩) (by assumption) ?r11
  case y11 =>
    intro wq hSw
    have q0 := (K1.out.trans hSw fun _ (h : False) => h.elim).cell HC0.out (fun h => h)
    clear hSw
    go_simp
    with_reducible rfl
  simp only [Act.put, List.getElem_toArray, List.getElem_cons_succ, List.getElem_cons_zero, List.setIfInBounds_toArray, List.set_cons_zero, List.set_cons_succ]
  refine wpAnyH_take (i := 4) (v := ?v12) rfl (by kernel_rfl) (by kernel_rfl) (by kernel_rfl) (fun _ _ _ h => h) (Or.inl ⟨by rfl, ?y12⟩) (by assumption) ?r12
  case y12 =>
    intro wq hSw
    clear hSw
    go_simp
    with_reducible rfl
  simp only [Act.put, List.getElem_toArray, List.getElem_cons_succ, List.getElem_cons_zero, List.setIfInBounds_toArray, List.set_cons_zero, List.set_cons_succ]
  refine wpAnyH_take (i := 5) (v := ?v13) rfl (by kernel_rfl) (by kernel_rfl) (by kernel_rfl) (fun _ _ _ h => h) (Or.inl ⟨by rfl, ?y13⟩) (by assumption) ?r13
  case y13 =>
    intro wq hSw
    have q2 := hSw.cell HD2.out (fun h => h)
    clear hSw
    go_simp
    with_reducible rfl
  simp only [Act.put, List.getElem_toArray, List.getElem_cons_succ, List.getElem_cons_zero, List.setIfInBounds_toArray, List.set_cons_zero, List.set_cons_succ]
  refine wpAnyH_ready (rs := [6]) (by kernel_rfl) (by simp) ?_
  refine AllReadyH.cons rfl (fun K hK => ?_) AllReadyH.nil
  rw [if_pos (by rfl)]
  go_simp
  refine (circle_any sp cap st.packets n _ (HS.out.keep0 (K1.out.trans hHeld fun _ (h : False) => h.elim)) HO.out.hp HO.out.lp).mono ?_
  rintro e w' ⟨rfl, rfl⟩
  dsimp only
  refine hK.out _ _ (hHeld) (fun hHeld => ?_)
  clear hK K
  refine wpAnyH_ready (rs := [7]) (by kernel_rfl) (by simp) ?_
  refine AllReadyH.cons rfl (fun K hK => ?_) AllReadyH.nil
  rw [if_pos (by rfl)]
  go_simp
  refine hK.out _ _ (hHeld.trans (Kp.alloc (fun _ => False) _ _) fun _ (h : False) => h.elim) (fun hHeld => ?_)
  clear hK K
  refine wpAnyH_take (i := 8) (v := ?v14) rfl (by kernel_rfl) (by kernel_rfl) (by kernel_rfl) (fun _ _ _ h => h) (Or.inl ⟨by rfl, ?y14⟩) (by assumption) ?r14
  case y14 =>
    intro wq hSw
    clear hSw
    go_simp
    with_reducible rfl
  simp only [Act.put, List.getElem_toArray, List.getElem_cons_succ, List.getElem_cons_zero, List.setIfInBounds_toArray, List.set_cons_zero, List.set_cons_succ]
  refine wpAnyH_done (by kernel_rfl) ?_ _
  go_wp2_with fail
  have hf := hHeld
  go_ret
  refine ⟨_, rfl, (strs1 _ _), K1.out.trans hf fun _ h => h.elim⟩
set_option maxRecDepth 100000 in
set_option maxHeartbeats 4000000 in
theorem rbytes_other {w : World} {B : Nat} {V : RV} {st : NS} (hR : RefP w B V st) (k d n : Int) (h : List UInt8) (hh : h.length = 32) (n1 : k ≠ 1) (n3 : k ≠ 3) (n4 : k ≠ 4) (n5 : k ≠ 5) (n6 : k ≠ 6) (n7 : k ≠ 7) :
    Calls Try.prog 39 #[.pointer (some ⟨V.b, 0, none⟩), .agg #[.int .i64 k, .int .i64 d, .int .i64 n], .agg (byteCells h).toArray] w (SPost w []) := by
  obtain ⟨sp, cap, hv, _, _, hs, _⟩ := Src.of_own hR.pk
  obtain ⟨so, co, hvo, _, _, hso, _⟩ := Src.of_own hR.old
  obtain ⟨c0, c1, c2, c3, c4, c5, cf⟩ := obj_cells hR.obj
  rw [hv] at c0
  rw [hvo] at c1
  have HC0 := Lib.hid c0
  have HC1 := Lib.hid c1
  have HS := Lib.hid hs
  have HSO := Lib.hid hso
  have HO := Lib.hid hR.ok
  have HR := Lib.hid hR
  clear c0 c1 c2 c3 c4 c5 cf hv hvo hs hso
  have HI : Hid ((Try.prog.info? 44).map (·.size) = some (byteCells h).toArray.size) := Lib.hid (info44.trans (by simp [byteCells, hh]))
  clear hR
  go_enter Try.func39, Try.ntmps39
  go_wp2_with (refine wpList_load_row rfl 44 (.tmp 5) rfl (w.heap.size + 1) rfl 44 _ (0, 0) _ (heap_alloc2_new w _ _) Try.underlying44 rfl HI.out ?_)
  obtain ⟨w0, hw0⟩ : ∃ w0, w0 = (w.alloc (.cells #[.int .i64 k, .int .i64 d, .int .i64 n] 42)).alloc (.cells (byteCells h).toArray 44) := ⟨_, rfl⟩
  have K0 : Hid (Kp (fun _ => False) w w0) := Lib.hid (by rw [hw0]; exact (Kp.alloc _ _ _).trans (Kp.alloc (fun _ => False) _ _) fun _ h => h.elim)
  have B0 : Hid (w0.heap[w.heap.size]? = some (.cells #[.int .i64 k, .int .i64 d, .int .i64 n] 42 (0, 0))) := Lib.hid (by rw [hw0]; exact heap_alloc2_old w _ _)
  have B1 : Hid (w0.heap[w.heap.size + 1]? = some (.cells (byteCells h).toArray 44 (0, 0))) := Lib.hid (by rw [hw0]; exact heap_alloc2_new w _ _)
  rw [← hw0]
  clear hw0
  refine (wanted_any (HR.out.keep0 K0.out) h hh).mono ?_
  rintro e w1 ⟨rfl, k1⟩
  obtain ⟨S, hS⟩ : ∃ S, wantedS st.packets h = S := ⟨_, rfl⟩
  have hSz : S.size ≤ 100 := by rw [← hS]; exact wanted_size HO.out h
  have K1 := Lib.hid (K0.out.trans k1 fun _ h => h.elim)
  have b2 := k1.heap B0.out (fun h => h)
  have d0 : w1.cell? ⟨w.heap.size, 0, none⟩ = some (.int .i64 k) := cell_of_row _ _ 0 _ _ _ b2
  have d2 : w1.cell? ⟨w.heap.size, 2, none⟩ = some (.int .i64 n) := cell_of_row _ _ 2 _ _ _ b2
  rw [hS]
  have HD2 := Lib.hid d2
  have HSW := Lib.hid hS
  clear b2 k1 hS
  have b1 : (k == 1) = false := by simpa using n1
  have b3 : (k == 3) = false := by simpa using n3
  have b4 : (k == 4) = false := by simpa using n4
  have b5 : (k == 5) = false := by simpa using n5
  have b6 : (k == 6) = false := by simpa using n6
  have b7 : (k == 7) = false := by simpa using n7
  go_wp2_with fail
  go_ret
  exact ⟨_, rfl, ⟨none, 0, rfl, Src.nil _ _ _, fun k ⟨o, e⟩ => by cases e⟩, K1.out⟩

theorem rbytes_any {w : World} {B : Nat} {V : RV} {st : NS} (hR : RefP w B V st) (x : Bh) (h : List UInt8) (hh : h.length = 32) :
    Calls Try.prog 39 #[.pointer (some ⟨V.b, 0, none⟩), .agg #[.int .i64 x.k, .int .i64 x.d, .int .i64 x.n], .agg (byteCells h).toArray] w (SPost w (bytesS st.packets st.old x h)) := by
  obtain ⟨k, d, n⟩ := x
  unfold bytesS
  dsimp only
  split
  · rename_i e; subst e; exact rbytes_honest hR 1 d n h hh
  split
  · rename_i e; subst e; exact rbytes_stale hR 3 d n h hh
  split
  · rename_i e; subst e; exact rbytes_short hR 4 d n h hh
  split
  · rename_i e; subst e; exact rbytes_twofold hR 5 d n h hh
  split
  · rename_i e; subst e; exact rbytes_exchange hR 6 d n h hh
  split
  · rename_i e; subst e; exact rbytes_forge hR 7 d n h hh
  exact rbytes_other hR k d n h hh ‹_› ‹_› ‹_› ‹_› ‹_› ‹_›

/-- The method of a kind. -/
theorem meth_any {w : World} {B : Nat} {V : NV} {st : NS} (h : NetP w B V st) (x : Bh) (hs : List UInt8) (f : FuncId) (hf : kindF x.k = some f) :
    Calls Try.prog f #[.pointer (some ⟨V.b, 0, none⟩), .string (wantedS st.packets hs), .int .i64 x.n] w (SPost w (bytesS st.packets st.old x hs)) := by
  have hz := wanted_size h.ok hs
  unfold kindF at hf
  unfold bytesS
  split at hf
  · cases hf; rw [if_pos ‹_›]; exact honest_any _ _ _ _
  rw [if_neg ‹_›]
  split at hf
  · cases hf; rw [if_pos ‹_›]; exact stale_any h _ _
  rw [if_neg ‹_›]
  split at hf
  · cases hf; rw [if_pos ‹_›]; exact short_any _ _ _ _ (by omega)
  rw [if_neg ‹_›]
  split at hf
  · cases hf; rw [if_pos ‹_›]; exact twofold_any _ _ _ _
  rw [if_neg ‹_›]
  split at hf
  · cases hf; rw [if_pos ‹_›]; exact exchange_any h _ _
  rw [if_neg ‹_›]
  split at hf
  · cases hf; rw [if_pos ‹_›]; exact forge_any _ _ _ _ (by omega)
  cases hf
theorem meth_none (packets old : List Pk) (x : Bh) (hs : List UInt8) (hf : kindF x.k = none) : bytesS packets old x hs = [] := by
  unfold kindF at hf
  unfold bytesS
  split at hf
  · cases hf
  rw [if_neg ‹_›]
  split at hf
  · cases hf
  rw [if_neg ‹_›]
  split at hf
  · cases hf
  rw [if_neg ‹_›]
  split at hf
  · cases hf
  rw [if_neg ‹_›]
  split at hf
  · cases hf
  rw [if_neg ‹_›]
  split at hf
  · cases hf
  rw [if_neg ‹_›]

end Go.Proofs.Ytlkamfmepjddkaa
