/- Walks: the least reply, its place, and a list without it. -/
import Derived.Test.YtlkamfmepjddkaaW9
set_option linter.unusedSimpArgs false
set_option linter.unusedVariables false
namespace Go.Proofs.Ytlkamfmepjddkaa
open Go.RowKit Go.Lib Go.Maps

def rpV (r : Rp) : Value := .agg #[.int .i64 r.num, .int .i64 r.mir, .int .i64 r.at', .string r.b]

def eqR (a b : Rp) : Bool := a.num == b.num && a.mir == b.mir && a.at' == b.at' && a.b.toList == b.b.toList
theorem eqR_iff (a b : Rp) : eqR a b = true ↔ a = b := by
  obtain ⟨n, m, t, s⟩ := a
  obtain ⟨n', m', t', s'⟩ := b
  simp only [eqR, Bool.and_eq_true, beq_iff_eq, Rp.mk.injEq, and_assoc]
  constructor
  · rintro ⟨h1, h2, h3, h4⟩
    exact ⟨h1, h2, h3, ba_ext (by rw [← ByteArray.toList_eq, ← ByteArray.toList_eq]; exact h4)⟩
  · rintro ⟨h1, h2, h3, h4⟩
    exact ⟨h1, h2, h3, by rw [h4]⟩

theorem run_eqR (a b : Rp) (u : World) : (Op.equalIn 10000 50 (rpV a) (rpV b)).run Try.prog u = .ok (eqR a b) u := by
  unfold rpV
  go_simp
  cases h1 : (a.num == b.num) <;> cases h2 : (a.mir == b.mir) <;> cases h3 : (a.at' == b.at') <;> cases h4 : (a.b.toList == b.b.toList) <;> simp_all [eqR]

theorem cmp_less (a b : Rp) : decide (orI (cmp3 a.at' b.at') (cmp3 a.num b.num) < 0) = lessR a b := by
  unfold orI cmp3 lessR
  rw [Bool.eq_iff_iff]
  simp only [decide_eq_true_eq, Bool.or_eq_true, Bool.and_eq_true]
  by_cases h1 : a.at' < b.at' <;> by_cases h2 : b.at' < a.at' <;> by_cases h3 : a.num < b.num <;> by_cases h4 : b.num < a.num <;> simp [h1, h2, h3, h4] <;> omega

set_option maxRecDepth 100000 in
set_option maxHeartbeats 4000000 in
theorem byTime_any (a b : Rp) (w : World) : Calls Try.prog 34 #[rpV a, rpV b] w fun e w' => e = .returned (.int .i64 (orI (cmp3 a.at' b.at') (cmp3 a.num b.num))) ∧ Kp (fun _ => False) w w' := by
  obtain ⟨n, m, t, s⟩ := a
  obtain ⟨n', m', t', s'⟩ := b
  unfold rpV
  dsimp only
  obtain ⟨p, hp⟩ : ∃ p, cmp3 t t' = p := ⟨_, rfl⟩
  obtain ⟨q, hq⟩ : ∃ p, cmp3 n n' = p := ⟨_, rfl⟩
  have HP := Lib.hid hp
  have HQ := Lib.hid hq
  rw [hp, hq]
  clear hp hq
  go_enter Try.func34, Try.ntmps34
  go_wp2_with fail
  obtain ⟨w0, hw0⟩ : ∃ w0, w0 = (w.alloc (.cells #[.int .i64 n, .int .i64 m, .int .i64 t, .string s] 50)).alloc (.cells #[.int .i64 n', .int .i64 m', .int .i64 t', .string s'] 50) := ⟨_, rfl⟩
  have K0 : Hid (Kp (fun _ => False) w w0) := Lib.hid (by rw [hw0]; exact (Kp.alloc _ _ _).trans (Kp.alloc (fun _ => False) _ _) fun _ h => h.elim)
  have b0 : w0.heap[w.heap.size]? = some (.cells #[.int .i64 n, .int .i64 m, .int .i64 t, .string s] 50 (0, 0)) := by rw [hw0]; exact heap_alloc2_old w _ _
  have b1 : w0.heap[w.heap.size + 1]? = some (.cells #[.int .i64 n', .int .i64 m', .int .i64 t', .string s'] 50 (0, 0)) := by rw [hw0]; exact heap_alloc2_new w _ _
  have A0 : Hid (w0.cell? ⟨w.heap.size, 0, none⟩ = some (.int .i64 n)) := Lib.hid (cell_of_row _ _ 0 _ _ _ b0)
  have A2 : Hid (w0.cell? ⟨w.heap.size, 2, none⟩ = some (.int .i64 t)) := Lib.hid (cell_of_row _ _ 2 _ _ _ b0)
  have B0 : Hid (w0.cell? ⟨w.heap.size + 1, 0, none⟩ = some (.int .i64 n')) := Lib.hid (cell_of_row _ _ 0 _ _ _ b1)
  have B2 : Hid (w0.cell? ⟨w.heap.size + 1, 2, none⟩ = some (.int .i64 t')) := Lib.hid (cell_of_row _ _ 2 _ _ _ b1)
  rw [← hw0]
  clear hw0 b0 b1
  refine wp_region_held_drew (S := Kp (fun _ => False) w0) (by kernel_rfl) (Kp.drew _ _) (fun hHeld => ?_)
  refine wpAnyH_take (i := 0) (v := ?v1) rfl (by kernel_rfl) (by kernel_rfl) (by kernel_rfl) (fun _ _ _ h => h) (Or.inl ⟨by rfl, ?y1⟩) (by assumption) ?r1
  case y1 =>
    intro wq hSw
    clear hSw
    go_simp
    with_reducible rfl
  simp only [Act.put, List.getElem_toArray, List.getElem_cons_succ, List.getElem_cons_zero, List.setIfInBounds_toArray, List.set_cons_zero, List.set_cons_succ]
  refine wpAnyH_take (i := 1) (v := ?v2) rfl (by kernel_rfl) (by kernel_rfl) (by kernel_rfl) (fun _ _ _ h => h) (Or.inl ⟨by rfl, ?y2⟩) (by assumption) ?r2
  case y2 =>
    intro wq hSw
    have q0 := hSw.cell A2.out (fun h => h)
    clear hSw
    go_simp
    with_reducible rfl
  simp only [Act.put, List.getElem_toArray, List.getElem_cons_succ, List.getElem_cons_zero, List.setIfInBounds_toArray, List.set_cons_zero, List.set_cons_succ]
  refine wpAnyH_take (i := 2) (v := ?v3) rfl (by kernel_rfl) (by kernel_rfl) (by kernel_rfl) (fun _ _ _ h => h) (Or.inl ⟨by rfl, ?y3⟩) (by assumption) ?r3
  case y3 =>
    intro wq hSw
    clear hSw
    go_simp
    with_reducible rfl
  simp only [Act.put, List.getElem_toArray, List.getElem_cons_succ, List.getElem_cons_zero, List.setIfInBounds_toArray, List.set_cons_zero, List.set_cons_succ]
  refine wpAnyH_take (i := 3) (v := ?v4) rfl (by kernel_rfl) (by kernel_rfl) (by kernel_rfl) (fun _ _ _ h => h) (Or.inl ⟨by rfl, ?y4⟩) (by assumption) ?r4
  case y4 =>
    intro wq hSw
    have q0 := hSw.cell B2.out (fun h => h)
    clear hSw
    go_simp
    with_reducible rfl
  simp only [Act.put, List.getElem_toArray, List.getElem_cons_succ, List.getElem_cons_zero, List.setIfInBounds_toArray, List.set_cons_zero, List.set_cons_succ]
  refine wpAnyH_take (i := 5) (v := ?v5) rfl (by kernel_rfl) (by kernel_rfl) (by kernel_rfl) (fun _ _ _ h => h) (Or.inl ⟨by rfl, ?y5⟩) (by assumption) ?r5
  case y5 =>
    intro wq hSw
    clear hSw
    go_simp
    with_reducible rfl
  simp only [Act.put, List.getElem_toArray, List.getElem_cons_succ, List.getElem_cons_zero, List.setIfInBounds_toArray, List.set_cons_zero, List.set_cons_succ]
  refine wpAnyH_take (i := 6) (v := ?v6) rfl (by kernel_rfl) (by kernel_rfl) (by kernel_rfl) (fun _ _ _ h => h) (Or.inl ⟨by rfl, ?y6⟩) (by assumption) ?r6
  case y6 =>
    intro wq hSw
    have q0 := hSw.cell A0.out (fun h => h)
    clear hSw
    go_simp
    with_reducible rfl
  simp only [Act.put, List.getElem_toArray, List.getElem_cons_succ, List.getElem_cons_zero, List.setIfInBounds_toArray, List.set_cons_zero, List.set_cons_succ]
  refine wpAnyH_take (i := 7) (v := ?v7) rfl (by kernel_rfl) (by kernel_rfl) (by kernel_rfl) (fun _ _ _ h => h) (Or.inl ⟨by rfl, ?y7⟩) (by assumption) ?r7
  case y7 =>
    intro wq hSw
    clear hSw
    go_simp
    with_reducible rfl
  simp only [Act.put, List.getElem_toArray, List.getElem_cons_succ, List.getElem_cons_zero, List.setIfInBounds_toArray, List.set_cons_zero, List.set_cons_succ]
  refine wpAnyH_take (i := 8) (v := ?v8) rfl (by kernel_rfl) (by kernel_rfl) (by kernel_rfl) (fun _ _ _ h => h) (Or.inl ⟨by rfl, ?y8⟩) (by assumption) ?r8
  case y8 =>
    intro wq hSw
    have q0 := hSw.cell B0.out (fun h => h)
    clear hSw
    go_simp
    with_reducible rfl
  simp only [Act.put, List.getElem_toArray, List.getElem_cons_succ, List.getElem_cons_zero, List.setIfInBounds_toArray, List.set_cons_zero, List.set_cons_succ]
  refine wpAnyH_ready (rs := [4]) (by kernel_rfl) (by simp) ?_
  refine AllReadyH.cons rfl (fun K hK => ?_) AllReadyH.nil
  rw [if_pos (by rfl)]
  go_simp
  refine (cmp_any t t' _).mono ?_
  rintro e w' ⟨rfl, rfl⟩
  rw [HP.out]
  dsimp only
  refine hK.out _ _ (hHeld) (fun hHeld => ?_)
  clear hK K
  refine wpAnyH_ready (rs := [9]) (by kernel_rfl) (by simp) ?_
  refine AllReadyH.cons rfl (fun K hK => ?_) AllReadyH.nil
  rw [if_pos (by rfl)]
  go_simp
  refine (cmp_any n n' _).mono ?_
  rintro e w' ⟨rfl, rfl⟩
  rw [HQ.out]
  dsimp only
  refine hK.out _ _ (hHeld) (fun hHeld => ?_)
  clear hK K
  refine wpAnyH_ready (rs := [10]) (by kernel_rfl) (by simp) ?_
  refine AllReadyH.cons rfl (fun K hK => ?_) AllReadyH.nil
  rw [if_pos (by rfl)]
  go_simp
  refine hK.out _ _ (hHeld.trans (Kp.alloc (fun _ => False) _ _) fun _ (h : False) => h.elim) (fun hHeld => ?_)
  clear hK K
  refine wpAnyH_ready (rs := [11]) (by kernel_rfl) (by simp) ?_
  refine AllReadyH.cons rfl (fun K hK => ?_) AllReadyH.nil
  rw [if_pos (by rfl)]
  go_simp
  have hrow := heap_alloc_new w0 (.cells #[.int .i64 p, .int .i64 q] 3)
  refine (or_any p q ((w0.alloc (.cells #[.int .i64 p, .int .i64 q] 3)).drew) w0.heap.size (cell_of_row _ _ 0 _ _ _ hrow) (cell_of_row _ _ 1 _ _ _ hrow)).mono ?_
  rintro e w' ⟨rfl, rfl⟩
  dsimp only
  refine hK.out _ _ (hHeld) (fun hHeld => ?_)
  clear hK K
  refine wpAnyH_take (i := 12) (v := ?v9) rfl (by kernel_rfl) (by kernel_rfl) (by kernel_rfl) (fun _ _ _ h => h) (Or.inl ⟨by rfl, ?y9⟩) (by assumption) ?r9
  case y9 =>
    intro wq hSw
    clear hSw
    go_simp
    with_reducible rfl
  simp only [Act.put, List.getElem_toArray, List.getElem_cons_succ, List.getElem_cons_zero, List.setIfInBounds_toArray, List.set_cons_zero, List.set_cons_succ]
  refine wpAnyH_done (by kernel_rfl) ?_ _
  have hf := hHeld
  have HF := Lib.hid (K0.out.trans hf fun _ h => h.elim)
  clear hHeld hf
  go_wp2_with fail
  go_ret
  exact ⟨rfl, HF.out⟩

theorem rp_cells {w : World} {g o i : Nat} {l : List Rp} {x : Rp} (hr : w.rangeAt g o (rps l)) (hp : l[i]? = some x) :
    w.cell? ⟨g, o + i * 4, none⟩ = some (.int .i64 x.num) ∧ w.cell? ⟨g, o + i * 4 + 1, none⟩ = some (.int .i64 x.mir) ∧ w.cell? ⟨g, o + i * 4 + 2, none⟩ = some (.int .i64 x.at') ∧ w.cell? ⟨g, o + i * 4 + 3, none⟩ = some (.string x.b) := by
  have h := rangeAt_flat rpCells 4 l hr i x (fun _ _ => rfl) hp
  exact ⟨h 0 _ rfl, h 1 _ rfl, h 2 _ rfl, h 3 _ rfl⟩

theorem info50s : (Try.prog.info? 50).map (·.size) = some 4 := by kernel_rfl

def MinRel (w1 : World) (R5 : Nat) (l : List Rp) (i : Value) (wr : World) : Prop :=
  ∃ (k : Nat) (m : Rp), i = .int .i64 (k : Int) ∧ 1 ≤ k ∧ k ≤ l.length ∧ l[kAfter l k]? = some m ∧ wr.heap[R5]? = some (.cells #[.int .i64 m.num, .int .i64 m.mir, .int .i64 m.at', .string m.b] 50 (0, 0)) ∧ Kp (fun q => q = R5) w1 wr

theorem kAfter_step {l : List Rp} {k : Nat} {x m : Rp} (hx : l[k]? = some x) (hm : l[kAfter l k]? = some m) : kAfter l (k + 1) = if lessR x m then k else kAfter l k := by
  rw [kAfter, hx, hm]

theorem rp4 {w : World} {R : Nat} {m : Rp} (h : w.heap[R]? = some (.cells #[.int .i64 m.num, .int .i64 m.mir, .int .i64 m.at', .string m.b] 50 (0, 0))) :
    w.cell? ⟨R, 0, none⟩ = some (.int .i64 m.num) ∧ w.cell? ⟨R, 1, none⟩ = some (.int .i64 m.mir) ∧ w.cell? ⟨R, 2, none⟩ = some (.int .i64 m.at') ∧ w.cell? ⟨R, 3, none⟩ = some (.string m.b) ∧ ∀ j, w.frozen? ⟨R, j, none⟩ = false :=
  ⟨cell_of_row _ _ 0 _ _ _ h, cell_of_row _ _ 1 _ _ _ h, cell_of_row _ _ 2 _ _ _ h, cell_of_row _ _ 3 _ _ _ h, fun j => frozen_of_row _ _ j _ _ h⟩

/-- Four stores into a reply's block. -/
theorem rp_store (w : World) (R : Nat) (x y : Rp) (h : w.heap[R]? = some (.cells #[.int .i64 y.num, .int .i64 y.mir, .int .i64 y.at', .string y.b] 50 (0, 0))) :
    ((((w.setCell ⟨R, 0, none⟩ (.int .i64 x.num)).setCell ⟨R, 1, none⟩ (.int .i64 x.mir)).setCell ⟨R, 2, none⟩ (.int .i64 x.at')).setCell ⟨R, 3, none⟩ (.string x.b)).heap[R]? = some (.cells #[.int .i64 x.num, .int .i64 x.mir, .int .i64 x.at', .string x.b] 50 (0, 0)) ∧
    Kp (fun q => q = R) w ((((w.setCell ⟨R, 0, none⟩ (.int .i64 x.num)).setCell ⟨R, 1, none⟩ (.int .i64 x.mir)).setCell ⟨R, 2, none⟩ (.int .i64 x.at')).setCell ⟨R, 3, none⟩ (.string x.b)) :=
  ⟨heap_setCell_same _ _ 3 _ 50 _ (heap_setCell_same _ _ 2 _ 50 _ (heap_setCell_same _ _ 1 _ 50 _ (heap_setCell_same _ _ 0 _ 50 _ h))),
   ktr (ktr (ktr (Kp.setCell (F := fun q => q = R) w (a := ⟨R, 0, none⟩) _ rfl) (Kp.setCell (F := fun q => q = R) _ (a := ⟨R, 1, none⟩) _ rfl)) (Kp.setCell (F := fun q => q = R) _ (a := ⟨R, 2, none⟩) _ rfl)) (Kp.setCell (F := fun q => q = R) _ (a := ⟨R, 3, none⟩) _ rfl)⟩

set_option maxRecDepth 100000 in
set_option maxHeartbeats 8000000 in
theorem minFunc_any (sp : Option Addr) (c : Nat) (l : List Rp) (w : World) (hs : Src w 4 sp l.length (rps l)) (h0 : l ≠ []) (hn : l.length ≤ 1000000) :
    Calls Try.prog 33 #[.slice sp l.length c, .func (.func 34) #[] #[]] w fun e w' => (∃ m, l[kIdx l]? = some m ∧ e = .returned (rpV m)) ∧ Kp (fun _ => False) w w' := by
  obtain ⟨n, hnn⟩ : ∃ n, n = l.length := ⟨_, rfl⟩
  rw [← hnn] at hs hn ⊢
  have hn0 : 0 < n := by rw [hnn]; exact List.length_pos_iff.2 h0
  obtain ⟨g, o, rfl, hr⟩ := hs.2 hn0
  obtain ⟨x0, hx0⟩ : ∃ x, l[0]? = some x := ⟨_, List.getElem?_eq_getElem (by omega)⟩
  have hglt : g < w.heap.size := rangeAt_lt hr (by rw [rps_len]; omega)
  have HR := Lib.hid hr
  have HX0 := Lib.hid hx0
  have HNN := Lib.hid hnn
  have K00 : Hid (l[kAfter l 1]? = some x0) := Lib.hid (by
    rw [kAfter_step hx0 hx0]
    split
    · exact hx0
    · exact hx0)
  have hnt : ¬ (n : Int) < 1 := by omega
  have hn1 : (0 : Int) < (n : Int) := by omega
  obtain ⟨wA, hwA⟩ : ∃ wA, wA = w.alloc (.cells #[.int .i64 0, .int .i64 0, .int .i64 0, .string ⟨#[]⟩] 50) := ⟨_, rfl⟩
  have KA : Hid (Kp (fun _ => False) w wA) := Lib.hid (by rw [hwA]; exact Kp.alloc _ _ _)
  have ha : wA.heap[w.heap.size]? = some (.cells #[.int .i64 0, .int .i64 0, .int .i64 0, .string ⟨#[]⟩] 50 (0, 0)) := by rw [hwA]; exact heap_alloc_new w _
  have sA : wA.heap.size = w.heap.size + 1 := by rw [hwA]; simp
  have q := rp_cells (rangeAt_kp (F := fun _ => False) hr KA.out (fun h => h)) hx0
  simp only [Nat.zero_mul, Nat.add_zero] at q
  obtain ⟨q0, q1, q2, q3⟩ := q
  have HA := Lib.hid ha
  clear hs hr hx0 hnn h0 ha
  rw [hwA] at q0 q1 q2 q3
  go_enter Try.func33, Try.ntmps33
  go_wp2_with fail
  rw [← hwA]
  obtain ⟨w1, hw1⟩ : ∃ w1, w1 = wA.alloc (.cells #[.int .i64 x0.num, .int .i64 x0.mir, .int .i64 x0.at', .string x0.b] 50) := ⟨_, rfl⟩
  have K1 : Hid (Kp (fun _ => False) wA w1) := Lib.hid (by rw [hw1]; exact Kp.alloc _ _ _)
  have h51 : w1.heap[w.heap.size + 1]? = some (.cells #[.int .i64 x0.num, .int .i64 x0.mir, .int .i64 x0.at', .string x0.b] 50 (0, 0)) := by rw [hw1, ← sA]; exact heap_alloc_new wA _
  have H51 := Lib.hid h51
  rw [← hw1]
  clear hw1 hwA h51 q0 q1 q2 q3
  have KW1 := Lib.hid (KA.out.trans K1.out fun _ h => h.elim)
  go_loopw [6] (fun i wr => MinRel w1 (w.heap.size + 1) l i wr) (fun i _ => n - (Go.RowKit.intOf i).toNat)
  case atStart => exact ⟨1, x0, rfl, Nat.le_refl _, by have := HNN.out; omega, K00.out, H51.out, Kp.refl _ _⟩
  case round =>
    obtain ⟨k, m, rfl, hk1, hk2, hm, hR5, hkp⟩ := hrel
    obtain ⟨d0, d1, d2, d3, df⟩ := rp4 hR5
    have HM := Lib.hid hm
    have HR5 := Lib.hid hR5
    have HK := Lib.hid hkp
    have D0 := Lib.hid d0
    have D1 := Lib.hid d1
    have D2 := Lib.hid d2
    have D3 := Lib.hid d3
    have hkn : k ≤ n := by have := HNN.out; omega
    have kp2 : Kp (fun q => q = w.heap.size + 1) w wr := KW1.out.zero.trans hkp fun _ h => .inl h
    have KP2 := Lib.hid kp2
    clear hm hR5 hkp hk2 kp2
    by_cases hlt : k < n
    · obtain ⟨x, hx⟩ : ∃ x, l[k]? = some x := ⟨_, List.getElem?_eq_getElem (by have := HNN.out; omega)⟩
      obtain ⟨e0, e1, e2, e3⟩ := rp_cells (rangeAt_kp HR.out KP2.out (by omega)) hx
      have E0 := Lib.hid e0
      have E1 := Lib.hid e1
      have E2 := Lib.hid e2
      have E3 := Lib.hid e3
      have hst := kAfter_step hx HM.out
      have hcl := cmp_less x m
      have HX := Lib.hid hx
      have i0 : (0 : Int) ≤ (k : Int) := by omega
      have i1 : (k : Int) < (n : Int) := by omega
      obtain ⟨v, hv⟩ : ∃ v, orI (cmp3 x.at' m.at') (cmp3 x.num m.num) = v := ⟨_, rfl⟩
      have hkw : IntKind.i64.wrap ((k : Int) + 1) = (k : Int) + 1 := IntWalk.i64_in _ (by omega)
      rw [hv] at hcl
      have HV := Lib.hid hv
      clear hx hv
      by_cases hl : lessR x m = true
      · rw [hl] at hcl
        rw [if_pos hl] at hst
        have hv0 : v < 0 := by simpa using hcl
        have HST := Lib.hid hst
        clear hcl hst hl e0 e1 e2 e3 d0 d1 d2 d3 df
        go_wp2_with fail
        refine wp_region_held_drew (S := Kp (fun _ => False) wr) (by kernel_rfl) (Kp.drew _ _) (fun hHeld => ?_)
        refine wpAnyH_take (i := 0) (v := ?v10) rfl (by kernel_rfl) (by kernel_rfl) (by kernel_rfl) (fun _ _ _ h => h) (Or.inl ⟨by rfl, ?y10⟩) (by assumption) ?r10
        case y10 =>
          intro wq hSw
          clear hSw
          go_simp
          with_reducible rfl
        simp only [Act.put, List.getElem_toArray, List.getElem_cons_succ, List.getElem_cons_zero, List.setIfInBounds_toArray, List.set_cons_zero, List.set_cons_succ]
        refine wpAnyH_take (i := 1) (v := ?v11) rfl (by kernel_rfl) (by kernel_rfl) (by kernel_rfl) (fun _ _ _ h => h) (Or.inl ⟨by rfl, ?y11⟩) (by assumption) ?r11
        case y11 =>
          intro wq hSw
          clear hSw
          go_simp
          with_reducible rfl
        simp only [Act.put, List.getElem_toArray, List.getElem_cons_succ, List.getElem_cons_zero, List.setIfInBounds_toArray, List.set_cons_zero, List.set_cons_succ]
        refine wpAnyH_take (i := 2) (v := ?v12) rfl (by kernel_rfl) (by kernel_rfl) (by kernel_rfl) (fun _ _ _ h => h) (Or.inl ⟨by rfl, ?y12⟩) (by assumption) ?r12
        case y12 =>
          intro wq hSw
          clear hSw
          go_simp
          with_reducible rfl
        simp only [Act.put, List.getElem_toArray, List.getElem_cons_succ, List.getElem_cons_zero, List.setIfInBounds_toArray, List.set_cons_zero, List.set_cons_succ]
        refine wpAnyH_take (i := 3) (v := ?v13) rfl (by kernel_rfl) (by kernel_rfl) (by kernel_rfl) (fun _ _ _ h => h) (Or.inl ⟨by rfl, ?y13⟩) (by assumption) ?r13
        case y13 =>
          intro wq hSw
          clear hSw
          go_simp
          with_reducible rfl
        simp only [Act.put, List.getElem_toArray, List.getElem_cons_succ, List.getElem_cons_zero, List.setIfInBounds_toArray, List.set_cons_zero, List.set_cons_succ]
        refine wpAnyH_take (i := 4) (v := ?v14) rfl (by kernel_rfl) (by kernel_rfl) (by kernel_rfl) (fun _ _ _ h => h) (Or.inl ⟨by rfl, ?y14⟩) (by assumption) ?r14
        case y14 =>
          intro wq hSw
          have q0 := hSw.cell E0.out (fun h => h)
          have q1 := hSw.cell E1.out (fun h => h)
          have q2 := hSw.cell E2.out (fun h => h)
          have q3 := hSw.cell E3.out (fun h => h)
          clear hSw
          go_simp
          with_reducible rfl
        simp only [Act.put, List.getElem_toArray, List.getElem_cons_succ, List.getElem_cons_zero, List.setIfInBounds_toArray, List.set_cons_zero, List.set_cons_succ]
        refine wpAnyH_take (i := 5) (v := ?v15) rfl (by kernel_rfl) (by kernel_rfl) (by kernel_rfl) (fun _ _ _ h => h) (Or.inl ⟨by rfl, ?y15⟩) (by assumption) ?r15
        case y15 =>
          intro wq hSw
          have q0 := hSw.cell D0.out (fun h => h)
          have q1 := hSw.cell D1.out (fun h => h)
          have q2 := hSw.cell D2.out (fun h => h)
          have q3 := hSw.cell D3.out (fun h => h)
          clear hSw
          go_simp
          with_reducible rfl
        simp only [Act.put, List.getElem_toArray, List.getElem_cons_succ, List.getElem_cons_zero, List.setIfInBounds_toArray, List.set_cons_zero, List.set_cons_succ]
        refine wpAnyH_ready (rs := [6]) (by kernel_rfl) (by simp) ?_
        refine AllReadyH.cons rfl (fun K hK => ?_) AllReadyH.nil
        rw [if_pos (by rfl)]
        go_simp
        refine (byTime_any x m _).mono ?_
        rintro e w' ⟨rfl, k3⟩
        rw [HV.out]
        dsimp only
        refine hK.out _ _ (hHeld.trans k3 fun _ (h : False) => h.elim) (fun hHeld => ?_)
        clear hK K
        refine wpAnyH_take (i := 7) (v := ?v16) rfl (by kernel_rfl) (by kernel_rfl) (by kernel_rfl) (fun _ _ _ h => h) (Or.inl ⟨by rfl, ?y16⟩) (by assumption) ?r16
        case y16 =>
          intro wq hSw
          clear hSw
          go_simp
          with_reducible rfl
        simp only [Act.put, List.getElem_toArray, List.getElem_cons_succ, List.getElem_cons_zero, List.setIfInBounds_toArray, List.set_cons_zero, List.set_cons_succ]
        refine wpAnyH_done (by kernel_rfl) ?_ _
        have kf := hHeld
        have KF := Lib.hid kf
        have HRF := Lib.hid (kf.heap HR5.out (fun h => h))
        have q0 := kf.cell E0.out (fun h => h)
        have q1 := kf.cell E1.out (fun h => h)
        have q2 := kf.cell E2.out (fun h => h)
        have q3 := kf.cell E3.out (fun h => h)
        obtain ⟨d0, d1, d2, d3, df⟩ := rp4 HRF.out
        clear hHeld kf
        go_wp2_with fail
        have hrs := rp_store _ (w.heap.size + 1) x m HRF.out
        go_roundw
        case rel => exact ⟨k + 1, x, by simp, by omega, by have := HNN.out; omega, by rw [HST.out]; exact HX.out, hrs.1, (HK.out.trans KF.out fun _ (h : False) => h.elim).trans hrs.2 fun _ h => .inl h⟩
        case measure => simp [Go.RowKit.intOf]; omega
      · have hl2 : lessR x m = false := by simpa using hl
        rw [hl2] at hcl
        rw [if_neg hl] at hst
        have hv0 : ¬ v < 0 := by simpa using hcl
        have HST := Lib.hid hst
        clear hcl hst hl hl2 e0 e1 e2 e3 d0 d1 d2 d3 df
        go_wp2_with fail
        refine wp_region_held_drew (S := Kp (fun _ => False) wr) (by kernel_rfl) (Kp.drew _ _) (fun hHeld => ?_)
        refine wpAnyH_take (i := 0) (v := ?v17) rfl (by kernel_rfl) (by kernel_rfl) (by kernel_rfl) (fun _ _ _ h => h) (Or.inl ⟨by rfl, ?y17⟩) (by assumption) ?r17
        case y17 =>
          intro wq hSw
          clear hSw
          go_simp
          with_reducible rfl
        simp only [Act.put, List.getElem_toArray, List.getElem_cons_succ, List.getElem_cons_zero, List.setIfInBounds_toArray, List.set_cons_zero, List.set_cons_succ]
        refine wpAnyH_take (i := 1) (v := ?v18) rfl (by kernel_rfl) (by kernel_rfl) (by kernel_rfl) (fun _ _ _ h => h) (Or.inl ⟨by rfl, ?y18⟩) (by assumption) ?r18
        case y18 =>
          intro wq hSw
          clear hSw
          go_simp
          with_reducible rfl
        simp only [Act.put, List.getElem_toArray, List.getElem_cons_succ, List.getElem_cons_zero, List.setIfInBounds_toArray, List.set_cons_zero, List.set_cons_succ]
        refine wpAnyH_take (i := 2) (v := ?v19) rfl (by kernel_rfl) (by kernel_rfl) (by kernel_rfl) (fun _ _ _ h => h) (Or.inl ⟨by rfl, ?y19⟩) (by assumption) ?r19
        case y19 =>
          intro wq hSw
          clear hSw
          go_simp
          with_reducible rfl
        simp only [Act.put, List.getElem_toArray, List.getElem_cons_succ, List.getElem_cons_zero, List.setIfInBounds_toArray, List.set_cons_zero, List.set_cons_succ]
        refine wpAnyH_take (i := 3) (v := ?v20) rfl (by kernel_rfl) (by kernel_rfl) (by kernel_rfl) (fun _ _ _ h => h) (Or.inl ⟨by rfl, ?y20⟩) (by assumption) ?r20
        case y20 =>
          intro wq hSw
          clear hSw
          go_simp
          with_reducible rfl
        simp only [Act.put, List.getElem_toArray, List.getElem_cons_succ, List.getElem_cons_zero, List.setIfInBounds_toArray, List.set_cons_zero, List.set_cons_succ]
        refine wpAnyH_take (i := 4) (v := ?v21) rfl (by kernel_rfl) (by kernel_rfl) (by kernel_rfl) (fun _ _ _ h => h) (Or.inl ⟨by rfl, ?y21⟩) (by assumption) ?r21
        case y21 =>
          intro wq hSw
          have q0 := hSw.cell E0.out (fun h => h)
          have q1 := hSw.cell E1.out (fun h => h)
          have q2 := hSw.cell E2.out (fun h => h)
          have q3 := hSw.cell E3.out (fun h => h)
          clear hSw
          go_simp
          with_reducible rfl
        simp only [Act.put, List.getElem_toArray, List.getElem_cons_succ, List.getElem_cons_zero, List.setIfInBounds_toArray, List.set_cons_zero, List.set_cons_succ]
        refine wpAnyH_take (i := 5) (v := ?v22) rfl (by kernel_rfl) (by kernel_rfl) (by kernel_rfl) (fun _ _ _ h => h) (Or.inl ⟨by rfl, ?y22⟩) (by assumption) ?r22
        case y22 =>
          intro wq hSw
          have q0 := hSw.cell D0.out (fun h => h)
          have q1 := hSw.cell D1.out (fun h => h)
          have q2 := hSw.cell D2.out (fun h => h)
          have q3 := hSw.cell D3.out (fun h => h)
          clear hSw
          go_simp
          with_reducible rfl
        simp only [Act.put, List.getElem_toArray, List.getElem_cons_succ, List.getElem_cons_zero, List.setIfInBounds_toArray, List.set_cons_zero, List.set_cons_succ]
        refine wpAnyH_ready (rs := [6]) (by kernel_rfl) (by simp) ?_
        refine AllReadyH.cons rfl (fun K hK => ?_) AllReadyH.nil
        rw [if_pos (by rfl)]
        go_simp
        refine (byTime_any x m _).mono ?_
        rintro e w' ⟨rfl, k3⟩
        rw [HV.out]
        dsimp only
        refine hK.out _ _ (hHeld.trans k3 fun _ (h : False) => h.elim) (fun hHeld => ?_)
        clear hK K
        refine wpAnyH_take (i := 7) (v := ?v23) rfl (by kernel_rfl) (by kernel_rfl) (by kernel_rfl) (fun _ _ _ h => h) (Or.inl ⟨by rfl, ?y23⟩) (by assumption) ?r23
        case y23 =>
          intro wq hSw
          clear hSw
          go_simp
          with_reducible rfl
        simp only [Act.put, List.getElem_toArray, List.getElem_cons_succ, List.getElem_cons_zero, List.setIfInBounds_toArray, List.set_cons_zero, List.set_cons_succ]
        refine wpAnyH_done (by kernel_rfl) ?_ _
        have kf := hHeld
        have KF := Lib.hid kf
        have HRF := Lib.hid (kf.heap HR5.out (fun h => h))
        clear hHeld kf
        go_wp2_with fail
        go_roundw
        case rel => exact ⟨k + 1, m, by simp, by omega, by have := HNN.out; omega, by rw [HST.out]; exact HM.out, HRF.out, HK.out.trans KF.out fun _ (h : False) => h.elim⟩
        case measure => simp [Go.RowKit.intOf]; omega
    · obtain rfl : k = n := by omega
      have ha := KP2.out
      have hA2 := HK.out.heap (K1.out.heap HA.out (fun h => h)) (by omega)
      obtain ⟨a0, a1, a2, a3, af⟩ := rp4 (m := ⟨0, 0, 0, ⟨#[]⟩⟩) hA2
      dsimp only at a0 a1 a2 a3
      have HA2 := Lib.hid hA2
      clear ha hA2
      go_wp2_with fail
      have hrs := rp_store wr w.heap.size m ⟨0, 0, 0, ⟨#[]⟩⟩ HA2.out
      refine bodyPost_ret (v := rpV m) (results_cell_row rfl _ _ w.heap.size 50 _ (0, 0) _ rfl hrs.1 Try.underlying50 rfl info50s) rfl ⟨⟨m, by have := HM.out; rw [HNN.out] at this; exact this, rfl⟩, (KP2.out.trans hrs.2 fun q hq => .inr (by omega)).mono fun q hq => .inr (by omega)⟩

end Go.Proofs.Ytlkamfmepjddkaa
