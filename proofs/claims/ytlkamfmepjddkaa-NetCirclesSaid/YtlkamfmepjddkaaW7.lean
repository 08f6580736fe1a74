/- Walks: the behaviour for the next request. -/
import Derived.Test.YtlkamfmepjddkaaW6
set_option linter.unusedSimpArgs false
set_option linter.unusedVariables false
namespace Go.Proofs.Ytlkamfmepjddkaa
open Go.RowKit Go.Lib Go.Maps

def bhV (x : Bh) : Value := .agg #[.int .i64 x.k, .int .i64 x.d, .int .i64 x.n]
def NextPost (w : World) (B : Nat) (m : Nat × Value) (l : List Bh) (a : Nat) (e : Ending) (w' : World) : Prop :=
  e = .returned (bhV (behS l a)) ∧ MirP w' B m l (a + 1) ∧ Kp (fun k => k = m.1) w w'

theorem behS_at {l : List Bh} {a : Nat} {x : Bh} (h : l[a % l.length]? = some x) : behS l a = x := by
  unfold behS
  rw [h]

theorem bh_cells {w : World} {g o i : Nat} {l : List Bh} {x : Bh} (hr : w.rangeAt g o (bhs l)) (hp : l[i]? = some x) :
    w.cell? ⟨g, o + i * 3, none⟩ = some (.int .i64 x.k) ∧ w.cell? ⟨g, o + i * 3 + 1, none⟩ = some (.int .i64 x.d) ∧ w.cell? ⟨g, o + i * 3 + 2, none⟩ = some (.int .i64 x.n) := by
  have h := rangeAt_flat bhCells 3 l hr i x (fun _ _ => rfl) hp
  exact ⟨h 0 _ rfl, h 1 _ rfl, h 2 _ rfl⟩

theorem info42 : (Try.prog.info? 42).map (·.size) = some 3 := by kernel_rfl

set_option maxHeartbeats 1000000 in
theorem next_empty {w : World} {B : Nat} {m : Nat × Value} {a : Nat} (h : MirP w B m [] a) : Calls Try.prog 31 #[.pointer (some ⟨m.1, 0, none⟩)] w (NextPost w B m [] a) := by
  obtain ⟨mb, mv⟩ := m
  show Calls Try.prog 31 #[.pointer (some ⟨mb, 0, none⟩)] w (NextPost w B (mb, mv) [] a)
  obtain ⟨sp, cap, hv, _, _, _, _⟩ := Src.of_own h.scr
  obtain ⟨c, hc, _⟩ := h.cnt
  dsimp only at hc hv
  have c0 : w.cell? ⟨mb, 0, none⟩ = some mv := cell_of_row _ _ 0 _ _ _ hc
  rw [hv] at c0
  simp only [List.length_nil] at c0
  have d0 := fun o => (Kp.alloc (fun _ => False) w o).cell c0 (fun h => h)
  have HC := Lib.hid hc
  have HM := Lib.hid h
  have HV := Lib.hid hv
  clear hc hv h
  go_enter Try.func31, Try.ntmps31
  go_wp2_with fail
  have hk : Kp (fun _ => False) w (w.alloc (.cells #[.int .i64 1, .int .i64 1, .int .i64 0] 42)) := Kp.alloc _ _ _
  refine bodyPost_ret (v := bhV ⟨1, 1, 0⟩) (by simp [results, Try.results31, go_sem, bhV]) rfl ⟨rfl, ?_, hk.zero⟩
  have M := HM.out.keep hk (fun h => h) (fun _ _ h => h)
  obtain ⟨c', hc', _⟩ := M.cnt
  exact ⟨M.hB, ⟨c', hc', fun h => absurd rfl h⟩, M.scr⟩

set_option maxRecDepth 100000 in
set_option maxHeartbeats 4000000 in
theorem next_some {w : World} {B : Nat} {m : Nat × Value} {l : List Bh} {a : Nat} (h : MirP w B m l a) (hl0 : l ≠ []) (ha : a ≤ 100000) (hll : l.length ≤ 5864062014805) : Calls Try.prog 31 #[.pointer (some ⟨m.1, 0, none⟩)] w (NextPost w B m l a) := by
  obtain ⟨mb, mv⟩ := m
  show Calls Try.prog 31 #[.pointer (some ⟨mb, 0, none⟩)] w (NextPost w B (mb, mv) l a)
  obtain ⟨sp, cap, hv, hnc, hcm, hs, hown⟩ := Src.of_own h.scr
  obtain ⟨c, hc, hca⟩ := h.cnt
  dsimp only at hc hv hown
  obtain rfl : c = a := hca hl0
  obtain ⟨n, hn⟩ : ∃ n, n = l.length := ⟨_, rfl⟩
  have hn0 : 0 < n := by rw [hn]; exact List.length_pos_iff.2 hl0
  rw [← hn] at hs hll hv hnc
  obtain ⟨g, o, rfl, hr⟩ := hs.2 hn0
  obtain ⟨i, hi⟩ : ∃ i, i = c % n := ⟨_, rfl⟩
  have hin : i < n := by rw [hi]; exact Nat.mod_lt _ hn0
  obtain ⟨x, hx⟩ : ∃ x, l[i]? = some x := ⟨_, List.getElem?_eq_getElem (by rw [← hn]; exact hin)⟩
  have HX : Hid (behS l c = x) := Lib.hid (behS_at (by rw [← hn, ← hi]; exact hx))
  have hg : mv.ownBlock = some g := hown g ⟨o, rfl⟩
  have hglt : g < w.heap.size := (ownsRow_block h.scr hg).2.1
  have hmlt : mb < w.heap.size := (Array.getElem?_eq_some_iff.1 hc).1
  have hgm : g ≠ mb := fun e => other_type h.scr hc (by decide) (by rw [hg, e])
  have c0 : w.cell? ⟨mb, 0, none⟩ = some mv := cell_of_row _ _ 0 _ _ _ hc
  have c1 : w.cell? ⟨mb, 1, none⟩ = some (.int .i64 (c : Int)) := cell_of_row _ _ 1 _ _ _ hc
  have cf : w.frozen? ⟨mb, 1, none⟩ = false := frozen_of_row _ _ 1 _ _ hc
  rw [hv] at c0
  have d0 := fun o => (Kp.alloc (fun _ => False) w o).cell c0 (fun h => h)
  have d1 := fun o => (Kp.alloc (fun _ => False) w o).cell c1 (fun h => h)
  have df : ∀ o, (w.alloc o).frozen? ⟨mb, 1, none⟩ = false := fun o => frozen_of_row _ _ 1 _ _ ((Kp.alloc (fun _ => False) w o).heap hc (fun h => h))
  have hrem : (c : Int).tmod (n : Int) = (i : Int) := by rw [Int.tmod_eq_emod_of_nonneg (by omega), hi]; simp
  have hrem2 : (c : Int) % (n : Int) = (i : Int) := by rw [hi]; simp
  have HR := Lib.hid hr
  have HC := Lib.hid hc
  have HM := Lib.hid h
  have HV := Lib.hid hv
  have HXI := Lib.hid hx
  have HN := Lib.hid hn
  have hwc : IntKind.i64.wrap ((c : Int) + 1) = (c : Int) + 1 := IntWalk.i64_in _ (by omega)
  have hwd : IntKind.i64.wrap (c : Int) = (c : Int) := IntWalk.i64_in _ (by omega)
  have hne : ((n : Int) == 0) = false := by rw [beq_eq_false_iff_ne]; omega
  have hn00 : ¬ n = 0 := by omega
  have i0 : (0 : Int) ≤ (i : Int) := by omega
  have i1 : (i : Int) < (n : Int) := by omega
  have hc5 : (c : Int) ≤ 100000 := by omega
  clear hc hv h hs hr hx hn hi hca hnc
  go_enter Try.func31, Try.ntmps31
  go_wp2_with fail
  obtain ⟨w1, hw1⟩ : ∃ w1, w1 = w.setCell ⟨mb, 1, none⟩ (.int .i64 ((c : Int) + 1)) := ⟨_, rfl⟩
  have z1 : w1.heap.size = w.heap.size := by rw [hw1]; simp [World.setCell]
  have k1 : Kp (fun k => k = mb) w w1 := by rw [hw1]; exact Kp.setCell (F := fun k => k = mb) _ (a := ⟨mb, 1, none⟩) _ rfl
  have hm1 : w1.heap[mb]? = some (.cells #[mv, .int .i64 ((c + 1 : Nat) : Int)] 83 (0, 0)) := by
    rw [hw1, heap_setCell_same _ mb 1 _ 83 _ HC.out]
    rfl
  rw [← hw1]
  clear hw1
  obtain ⟨w2, hw2⟩ : ∃ w2, w2 = w1.alloc (.cells #[.int .i64 0, .int .i64 0, .int .i64 0] 42) := ⟨_, rfl⟩
  have k2 : Kp (fun k => k = mb) w w2 := by rw [hw2]; exact k1.trans (Kp.alloc (fun k => k = mb) w1 _) fun _ h => .inl h
  have hm2 : w2.heap[mb]? = some (.cells #[mv, .int .i64 ((c + 1 : Nat) : Int)] 83 (0, 0)) := by rw [hw2]; exact (Kp.alloc (fun _ => False) w1 _).heap hm1 (fun h => h)
  have hr2 : w2.heap[w.heap.size]? = some (.cells #[.int .i64 0, .int .i64 0, .int .i64 0] 42 (0, 0)) := by
    rw [hw2, ← z1]
    exact heap_alloc_new w1 _
  clear k1 hm1 z1
  rw [← hw2]
  clear hw2 d0 d1 df c0 c1 cf
  have K2 := Lib.hid k2
  have M2 := Lib.hid hm2
  have R2 := Lib.hid hr2
  have e0 : w2.cell? ⟨mb, 0, none⟩ = some (.slice (some ⟨g, o, none⟩) n cap) := by rw [← HV.out]; exact cell_of_row _ _ 0 _ _ _ hm2
  have e1 : w2.cell? ⟨mb, 1, none⟩ = some (.int .i64 ((c : Int) + 1)) := cell_of_row _ _ 1 _ _ _ hm2
  obtain ⟨x0, x1, x2⟩ := bh_cells (rangeAt_kp HR.out k2 hgm) HXI.out
  have r0 : w2.cell? ⟨w.heap.size, 0, none⟩ = some (.int .i64 0) := cell_of_row _ _ 0 _ _ _ hr2
  have r1 : w2.cell? ⟨w.heap.size, 1, none⟩ = some (.int .i64 0) := cell_of_row _ _ 1 _ _ _ hr2
  have r2 : w2.cell? ⟨w.heap.size, 2, none⟩ = some (.int .i64 0) := cell_of_row _ _ 2 _ _ _ hr2
  have rf : ∀ j, w2.frozen? ⟨w.heap.size, j, none⟩ = false := fun j => frozen_of_row _ _ j _ _ hr2
  have nm : ¬ mb = w.heap.size := by omega
  have ng : ¬ g = w.heap.size := by omega
  have E0 := Lib.hid e0
  have E1 := Lib.hid e1
  have X0 := Lib.hid x0
  have X1 := Lib.hid x1
  have X2 := Lib.hid x2
  clear k2 hm2 hr2 e0 e1 x0 x1 x2
  refine wp_region_held_drew (S := Kp (fun k => k = w.heap.size) w2) (by kernel_rfl) (Kp.drew _ _) (fun hHeld => ?_)
  refine wpAnyH_take (i := 0) (v := ?v1) rfl (by kernel_rfl) (by kernel_rfl) (by kernel_rfl) (fun _ _ _ h => h) (Or.inl ⟨by rfl, ?y1⟩) (by assumption) ?r1
  case y1 =>
    intro wq hSw
    clear hSw
    go_simp
    with_reducible rfl
  simp only [Act.put, List.getElem_toArray, List.getElem_cons_succ, List.getElem_cons_zero, List.setIfInBounds_toArray, List.set_cons_zero, List.set_cons_succ]
  refine wpAnyH_take (i := 1) (v := ?v2) rfl (by kernel_rfl) (by kernel_rfl) (by kernel_rfl) (fun _ _ _ h => h) (Or.inl ⟨by rfl, ?y2⟩) (by assumption) ?r2
  case y2 =>
    intro wq hSw
    clear hSw
    go_simp
    with_reducible rfl
  simp only [Act.put, List.getElem_toArray, List.getElem_cons_succ, List.getElem_cons_zero, List.setIfInBounds_toArray, List.set_cons_zero, List.set_cons_succ]
  refine wpAnyH_take (i := 2) (v := ?v3) rfl (by kernel_rfl) (by kernel_rfl) (by kernel_rfl) (fun _ _ _ h => h) (Or.inl ⟨by rfl, ?y3⟩) (by assumption) ?r3
  case y3 =>
    intro wq hSw
    clear hSw
    go_simp
    with_reducible rfl
  simp only [Act.put, List.getElem_toArray, List.getElem_cons_succ, List.getElem_cons_zero, List.setIfInBounds_toArray, List.set_cons_zero, List.set_cons_succ]
  refine wpAnyH_take (i := 3) (v := ?v4) rfl (by kernel_rfl) (by kernel_rfl) (by kernel_rfl) (fun _ _ _ h => h) (Or.inl ⟨by rfl, ?y4⟩) (by assumption) ?r4
  case y4 =>
    intro wq hSw
    have q0 := hSw.cell E0.out nm
    clear hSw
    go_simp
    with_reducible rfl
  simp only [Act.put, List.getElem_toArray, List.getElem_cons_succ, List.getElem_cons_zero, List.setIfInBounds_toArray, List.set_cons_zero, List.set_cons_succ]
  refine wpAnyH_take (i := 4) (v := ?v5) rfl (by kernel_rfl) (by kernel_rfl) (by kernel_rfl) (fun _ _ _ h => h) (Or.inl ⟨by rfl, ?y5⟩) (by assumption) ?r5
  case y5 =>
    intro wq hSw
    clear hSw
    go_simp
    with_reducible rfl
  simp only [Act.put, List.getElem_toArray, List.getElem_cons_succ, List.getElem_cons_zero, List.setIfInBounds_toArray, List.set_cons_zero, List.set_cons_succ]
  refine wpAnyH_take (i := 5) (v := ?v6) rfl (by kernel_rfl) (by kernel_rfl) (by kernel_rfl) (fun _ _ _ h => h) (Or.inl ⟨by rfl, ?y6⟩) (by assumption) ?r6
  case y6 =>
    intro wq hSw
    clear hSw
    go_simp
    with_reducible rfl
  simp only [Act.put, List.getElem_toArray, List.getElem_cons_succ, List.getElem_cons_zero, List.setIfInBounds_toArray, List.set_cons_zero, List.set_cons_succ]
  refine wpAnyH_take (i := 6) (v := ?v7) rfl (by kernel_rfl) (by kernel_rfl) (by kernel_rfl) (fun _ _ _ h => h) (Or.inl ⟨by rfl, ?y7⟩) (by assumption) ?r7
  case y7 =>
    intro wq hSw
    clear hSw
    go_simp
    with_reducible rfl
  simp only [Act.put, List.getElem_toArray, List.getElem_cons_succ, List.getElem_cons_zero, List.setIfInBounds_toArray, List.set_cons_zero, List.set_cons_succ]
  refine wpAnyH_take (i := 7) (v := ?v8) rfl (by kernel_rfl) (by kernel_rfl) (by kernel_rfl) (fun _ _ _ h => h) (Or.inl ⟨by rfl, ?y8⟩) (by assumption) ?r8
  case y8 =>
    intro wq hSw
    have q0 := hSw.cell E1.out nm
    clear hSw
    go_simp
    with_reducible rfl
  simp only [Act.put, List.getElem_toArray, List.getElem_cons_succ, List.getElem_cons_zero, List.setIfInBounds_toArray, List.set_cons_zero, List.set_cons_succ]
  refine wpAnyH_take (i := 8) (v := ?v9) rfl (by kernel_rfl) (by kernel_rfl) (by kernel_rfl) (fun _ _ _ h => h) (Or.inl ⟨by rfl, ?y9⟩) (by assumption) ?r9
  case y9 =>
    intro wq hSw
    clear hSw
    go_simp
    with_reducible rfl
  simp only [Act.put, List.getElem_toArray, List.getElem_cons_succ, List.getElem_cons_zero, List.setIfInBounds_toArray, List.set_cons_zero, List.set_cons_succ]
  refine wpAnyH_take (i := 9) (v := ?v10) rfl (by kernel_rfl) (by kernel_rfl) (by kernel_rfl) (fun _ _ _ h => h) (Or.inl ⟨by rfl, ?y10⟩) (by assumption) ?r10
  case y10 =>
    intro wq hSw
    clear hSw
    go_simp
    with_reducible rfl
  simp only [Act.put, List.getElem_toArray, List.getElem_cons_succ, List.getElem_cons_zero, List.setIfInBounds_toArray, List.set_cons_zero, List.set_cons_succ]
  refine wpAnyH_take (i := 10) (v := ?v11) rfl (by kernel_rfl) (by kernel_rfl) (by kernel_rfl) (fun _ _ _ h => h) (Or.inl ⟨by rfl, ?y11⟩) (by assumption) ?r11
  case y11 =>
    intro wq hSw
    clear hSw
    go_simp
    with_reducible rfl
  simp only [Act.put, List.getElem_toArray, List.getElem_cons_succ, List.getElem_cons_zero, List.setIfInBounds_toArray, List.set_cons_zero, List.set_cons_succ]
  refine wpAnyH_take (i := 11) (v := ?v12) rfl (by kernel_rfl) (by kernel_rfl) (by kernel_rfl) (fun _ _ _ h => h) (Or.inl ⟨by rfl, ?y12⟩) (by assumption) ?r12
  case y12 =>
    intro wq hSw
    clear hSw
    go_simp
    with_reducible rfl
  simp only [Act.put, List.getElem_toArray, List.getElem_cons_succ, List.getElem_cons_zero, List.setIfInBounds_toArray, List.set_cons_zero, List.set_cons_succ]
  refine wpAnyH_take (i := 12) (v := ?v13) rfl (by kernel_rfl) (by kernel_rfl) (by kernel_rfl) (fun _ _ _ h => h) (Or.inl ⟨by rfl, ?y13⟩) (by assumption) ?r13
  case y13 =>
    intro wq hSw
    have q0 := hSw.cell E0.out nm
    clear hSw
    go_simp
    with_reducible rfl
  simp only [Act.put, List.getElem_toArray, List.getElem_cons_succ, List.getElem_cons_zero, List.setIfInBounds_toArray, List.set_cons_zero, List.set_cons_succ]
  refine wpAnyH_take (i := 13) (v := ?v14) rfl (by kernel_rfl) (by kernel_rfl) (by kernel_rfl) (fun _ _ _ h => h) (Or.inl ⟨by rfl, ?y14⟩) (by assumption) ?r14
  case y14 =>
    intro wq hSw
    clear hSw
    go_simp
    with_reducible rfl
  simp only [Act.put, List.getElem_toArray, List.getElem_cons_succ, List.getElem_cons_zero, List.setIfInBounds_toArray, List.set_cons_zero, List.set_cons_succ]
  refine wpAnyH_take (i := 14) (v := ?v15) rfl (by kernel_rfl) (by kernel_rfl) (by kernel_rfl) (fun _ _ _ h => h) (Or.inl ⟨by rfl, ?y15⟩) (by assumption) ?r15
  case y15 =>
    intro wq hSw
    clear hSw
    go_simp
    with_reducible rfl
  simp only [Act.put, List.getElem_toArray, List.getElem_cons_succ, List.getElem_cons_zero, List.setIfInBounds_toArray, List.set_cons_zero, List.set_cons_succ]
  refine wpAnyH_take (i := 15) (v := ?v16) rfl (by kernel_rfl) (by kernel_rfl) (by kernel_rfl) (fun _ _ _ h => h) (Or.inl ⟨by rfl, ?y16⟩) (by assumption) ?r16
  case y16 =>
    intro wq hSw
    clear hSw
    go_simp
    with_reducible rfl
  simp only [Act.put, List.getElem_toArray, List.getElem_cons_succ, List.getElem_cons_zero, List.setIfInBounds_toArray, List.set_cons_zero, List.set_cons_succ]
  refine wpAnyH_take (i := 16) (v := ?v17) rfl (by kernel_rfl) (by kernel_rfl) (by kernel_rfl) (fun _ _ _ h => h) (Or.inl ⟨by rfl, ?y17⟩) (by assumption) ?r17
  case y17 =>
    intro wq hSw
    have q0 := hSw.cell X0.out ng
    have q1 := hSw.cell X1.out ng
    have q2 := hSw.cell X2.out ng
    clear hSw
    go_simp
    with_reducible rfl
  simp only [Act.put, List.getElem_toArray, List.getElem_cons_succ, List.getElem_cons_zero, List.setIfInBounds_toArray, List.set_cons_zero, List.set_cons_succ]
  refine wpAnyH_ready (rs := [17]) (by kernel_rfl) (by simp) ?_
  refine AllReadyH.cons rfl (fun K hK => ?_) AllReadyH.nil
  rw [if_pos (by rfl)]
  go_simp
  obtain ⟨wF, hwF⟩ : ∃ wF, wF = (((w2.setCell ⟨w.heap.size, 0, none⟩ (.int .i64 x.k)).setCell ⟨w.heap.size, 1, none⟩ (.int .i64 x.d)).setCell ⟨w.heap.size, 2, none⟩ (.int .i64 x.n)).drew := ⟨_, rfl⟩
  have rF : wF.heap[w.heap.size]? = some (.cells #[.int .i64 x.k, .int .i64 x.d, .int .i64 x.n] 42 (0, 0)) := by
    rw [hwF]
    exact (heap_setCell_same _ _ 2 _ 42 _ (heap_setCell_same _ _ 1 _ 42 _ (heap_setCell_same _ _ 0 _ 42 _ R2.out)))
  have kF : Kp (fun k => k = w.heap.size) w2 wF := by
    rw [hwF]
    exact (((Kp.setCell (F := fun k => k = w.heap.size) w2 (a := ⟨w.heap.size, 0, none⟩) _ rfl).trans (Kp.setCell (F := fun k => k = w.heap.size) _ (a := ⟨w.heap.size, 1, none⟩) _ rfl) fun _ h => .inl h).trans (Kp.setCell (F := fun k => k = w.heap.size) _ (a := ⟨w.heap.size, 2, none⟩) _ rfl) fun _ h => .inl h).trans (Kp.drew (fun k => k = w.heap.size) _) fun _ h => .inl h
  rw [← hwF]
  clear hwF
  refine hK.out _ _ kF (fun hHeld => ?_)
  clear hK K
  refine wpAnyH_done (by kernel_rfl) ?_ _
  have KF := Lib.hid kF
  have RF := Lib.hid rF
  clear kF rF hHeld r0 r1 r2 rf
  go_wp2_with fail
  refine bodyPost_ret (v := bhV x) (results_cell_row rfl _ _ w.heap.size 42 _ (0, 0) _ rfl RF.out Try.underlying42 rfl info42) rfl ⟨by rw [HX.out], ?_, K2.out.trans KF.out fun k hk => .inr (by omega)⟩
  have hs2 := HM.out.scr
  refine ⟨HM.out.hB, ⟨c + 1, KF.out.heap M2.out nm, fun _ => rfl⟩, ?_⟩
  refine KF.out.own (K2.out.own hs2 fun k hk e => ?_) fun k hk e => ?_
  · have := ownsRow_block hs2 hk
    rw [hg] at hk
    cases hk
    exact hgm e
  · have := ownsRow_block hs2 hk
    omega

theorem next_any {w : World} {B : Nat} {m : Nat × Value} {l : List Bh} {a : Nat} (h : MirP w B m l a) (ha : a ≤ 100000) (hll : l.length ≤ 5864062014805) : Calls Try.prog 31 #[.pointer (some ⟨m.1, 0, none⟩)] w (NextPost w B m l a) := by
  by_cases e : l = []
  · subst e
    exact next_empty h
  · exact next_some h e ha hll

end Go.Proofs.Ytlkamfmepjddkaa
