/- Walk: the law DigestBits. -/
import Derived.Test.YtgkdjcednebgoaaXh
import Derived.Deep.RegionHeld3
namespace Go.Proofs.Ytgkdjcednebgoaa
open Go.RowKit Go.Lib

/-- One byte of a row that may bear a mark is stored anew. -/
theorem OwnM.set1 {w : World} {B g cap n : Nat} {l : List UInt8} (h : OwnM w B (.slice (some ⟨g, 0, none⟩) n cap) l) (j : Nat) (c : UInt8) (hj : j < l.length) :
    OwnM (w.setCell ⟨g, j, none⟩ (.int .u8 (c.toNat : Int))) B (.slice (some ⟨g, 0, none⟩) n cap) (l.set j c) := by
  obtain ⟨g', cap', cur, fr, he, hB, hg, hfr, hn, hm, hs, ht⟩ := h
  cases he
  refine ⟨g, cap, _, fr, by rw [List.length_set], hB, heap_setCell_fr w g j cur 5 fr _ hg, ?_, by rw [List.length_set]; exact hn, hm, by simpa using hs, ?_⟩
  · rcases hfr with h | h
    · exact .inl h
    · exact .inr (by rw [h]; simp)
  · rw [List.length_set, Array.toList_setIfInBounds, List.take_set, ht]
    simp only [byteCells, List.map_set]

theorem OwnM.cell1 {w : World} {B g cap n : Nat} {l : List UInt8} (h : OwnM w B (.slice (some ⟨g, 0, none⟩) n cap) l) (j : Nat) (hj : j < l.length) :
    w.cell? ⟨g, j, none⟩ = some (.int .u8 ((l.getD j 0).toNat : Int)) ∧ w.frozen? ⟨g, j, none⟩ = false := by
  obtain ⟨g', cap', cur, fr, he, hB, hg, hfr, hn, hm, hs, ht⟩ := h
  cases he
  constructor
  · rw [cell_of_row w g j cur 5 fr hg, ← Array.getElem?_toList]
    have : (byteCells l)[j]? = cur.toList[j]? := by rw [← ht, List.getElem?_take_of_lt hj]
    rw [← this]
    simpa using rowB_some l j hj
  · rcases hfr with h | h <;> subst h <;> simp [World.frozen?, hg] <;> omega

/-- The row as a string. -/
theorem OwnM.str {w : World} {B g cap n : Nat} {l : List UInt8} (h : OwnM w B (.slice (some ⟨g, 0, none⟩) n cap) l) (t : ByteArray) (ht : t = ⟨l.toArray⟩) :
    (convert 33 9 (.slice (some ⟨g, 0, none⟩) n cap)).run Try.prog w = .ok (.string t) w := by
  have h0 := h
  obtain ⟨g', cap', cur, fr, he, hB, hg, hfr, hn, hm, hs, htk⟩ := h
  cases he
  have e1 : t = strOfNums (l.map fun b => (b.toNat : Int)) := by
    apply ba_ext
    rw [ht, strOfNums_data]
    simp [Function.comp_def]
  rw [e1]
  refine run_convert_bytes_arg _ 33 5 Try.underlying33 Try.underlying5 g 0 l.length cap _ (by simp) ?_ 9 Try.underlying9
  intro i hi
  rw [Nat.zero_add, (h0.cell1 i hi).1]
  simp [List.getD, hi]

set_option maxRecDepth 100000 in
set_option maxHeartbeats 4000000 in
theorem bits_walk (W : World) (s : ByteArray) (bit : Int) (hs : s.size ≤ 9223372036854775807) : Calls Try.prog 7 #[.string s, .int .i64 bit] W fun e w' => e = .returned (.bool true) ∧ Below W.heap.size W w' := by
  obtain ⟨m, hm⟩ : ∃ m : Nat, m = min s.size 200 := ⟨_, rfl⟩
  have hm1 : m ≤ s.size := by omega
  have hm2 : m ≤ 200 := by omega
  obtain ⟨x, hx⟩ : ∃ x, x = s.extract 0 m := ⟨_, rfl⟩
  have hxs : x.size ≤ 200 := by rw [hx, ByteArray.size_extract]; omega
  obtain ⟨y, hy⟩ : ∃ y : ByteArray, y = x ++ ⟨#[101, 110, 100]⟩ := ⟨_, rfl⟩
  have hys : y.size = x.size + 3 := by rw [hy, ByteArray.size_append]; rfl
  obtain ⟨L, hL⟩ : ∃ L, L = y.data.toList := ⟨_, rfl⟩
  have hLl : L.length = x.size + 3 := by rw [hL, ← size_list]; exact hys
  obtain ⟨N, hN⟩ : ∃ N, N = L.length := ⟨_, rfl⟩
  have hN1 : N ≤ 203 := by omega
  have hN2 : 3 ≤ N := by omega
  have hk0 : 0 ≤ bit % (8 * (N : Int)) := Int.emod_nonneg _ (by omega)
  have hk1 := Int.emod_lt_of_pos bit (show (0 : Int) < 8 * (N : Int) by omega)
  obtain ⟨k, hk⟩ : ∃ k : Nat, bit % (8 * (N : Int)) = (k : Int) := ⟨(bit % (8 * (N : Int))).toNat, by omega⟩
  have hkN : k < 8 * N := by omega
  obtain ⟨j, hj⟩ : ∃ j : Nat, (k : Int) / 8 = (j : Int) := ⟨k / 8, by omega⟩
  have hjN : j < N := by omega
  have HM := Lib.hid hm
  have HX := Lib.hid hx.symm
  have HY := Lib.hid hy.symm
  have HL := Lib.hid hL.symm
  have HN := Lib.hid hN
  have HKK := Lib.hid hk
  have HJ := Lib.hid hj
  have hs9 : ¬ 9223372036854775807 < x.size + 3 := by omega
  have hyb : y.size ≤ 1000000 := by omega
  clear hm hx hy hL hN hk hj hk0 hk1 hys hLl
  go_enter Try.func7, Try.ntmps7
  go_wp2_with fail
  refine (sanity_any W).mono ?_
  rintro e w1 ⟨rfl, k1⟩
  have K1 := Lib.hid k1
  clear k1
  go_wp2_with (first
    | (refine wpList_min rfl (.tmp 12) (.const (.int .i64 200)) #[3, 3] rfl .i64 _ _ (m : Int) rfl rfl (by have := HM.out; omega) ?_)
    | (refine wpList_bytes_of rfl (.tmp 15) rfl (s.extract 0 m ++ ⟨#[101, 110, 100]⟩) rfl (by rw [HX.out, HY.out]; exact hyb) w1.heap.size (Nat.le_refl _) ?_; intro v2 w2 o2 q2; rw [HX.out, HY.out, HL.out] at o2; obtain ⟨g, cap, hv, hcap, hg⟩ : ∃ g cap : Nat, v2 = .slice (some ⟨g, 0, none⟩) N cap ∧ N ≤ cap ∧ w1.heap.size ≤ g := (by obtain ⟨g, cap, n, e1, e2, e3, e4, _⟩ := o2.form; rw [← HN.out] at e2; exact ⟨g, cap, by rw [e1, e2], by omega, e4⟩); subst hv; have O2 := Lib.hid o2; have Q2 := Lib.hid q2; clear o2 q2))
  refine (mod_any bit (8 * (N : Int)) _ (by omega) (by omega)).mono ?_
  rintro e w' ⟨rfl, rfl⟩
  rw [HKK.out]
  go_wp2_with fail
  have hcl := O2.out.cell1 j (by rw [← HN.out]; exact hjN)
  obtain ⟨c0, hc0⟩ : ∃ c0, L.getD j 0 = c0 := ⟨_, rfl⟩
  rw [hc0] at hcl
  obtain ⟨cc, cf⟩ := hcl
  have jN : (j : Int) < (N : Int) := by omega
  have j0 : (0 : Int) ≤ (j : Int) := by omega
  have kk0 : (0 : Int) ≤ (k : Int) := by omega
  have hwj : IntKind.i64.wrap (j : Int) = (j : Int) := IntWalk.i64_in _ (by omega)
  obtain ⟨q, hqq⟩ : ∃ q : Int, (2 : Int) ^ (k % 8) % 256 = q := ⟨_, rfl⟩
  obtain ⟨c1, hc1⟩ : ∃ c1 : UInt8, bits BinOp.xor IntKind.u8 (c0.toNat : Int) q = (c1.toNat : Int) := by
    refine ⟨UInt8.ofNat (bits BinOp.xor IntKind.u8 (c0.toNat : Int) q).toNat, ?_⟩
    have hb : 0 ≤ bits BinOp.xor IntKind.u8 (c0.toNat : Int) q ∧ bits BinOp.xor IntKind.u8 (c0.toNat : Int) q < 256 := by
      unfold bits
      rw [IntKind.wrap_u8']
      omega
    simp
    omega
  have hj := HJ.out
  have HQ := Lib.hid hqq
  have HB := Lib.hid hc1
  clear hc0 hqq hc1
  go_region
  rw [HQ.out, HB.out]
  obtain ⟨w3, hw3⟩ : ∃ w3, w3 = (w2.setCell ⟨g, j, none⟩ (.int .u8 (c1.toNat : Int))).drew := ⟨_, rfl⟩
  rw [← hw3]
  have o3 : OwnM w3 w1.heap.size (.slice (some ⟨g, 0, none⟩) N cap) (L.set j c1) := by
    rw [hw3]
    exact (O2.out.set1 j c1 (by rw [← HN.out]; exact hjN)).keep (Kp.drew (fun _ => False) _) (fun _ _ h => h)
  have K3 : Hid (Kp (fun _ => False) W w3) := Lib.hid (by
    rw [hw3]
    exact ((K1.out.trans Q2.out fun _ h => h.elim).trans (Kp.setCell (F := fun k => k = g) w2 (a := ⟨g, j, none⟩) _ rfl) fun k hk => .inr (by have := K1.out.size; omega)).trans (Kp.drew (fun _ => False) _) fun _ h => h.elim)
  obtain ⟨t, ht⟩ : ∃ t : ByteArray, t = ⟨(L.set j c1).toArray⟩ := ⟨_, rfl⟩
  have hts : t.size ≤ 100000 := by rw [ht, size_list]; simp; have := HN.out; omega
  obtain ⟨H, hH⟩ : ∃ H, hashOf t.data.toList = H := ⟨_, rfl⟩
  have hHl : H.length = 32 := by rw [← hH]; exact hashOf_length _
  have heq := run_eq32 H H hHl hHl
  rw [beq_self_eq_true] at heq
  have HH := Lib.hid hH
  have hcv0 : ∀ u : World, Kp (fun _ => False) w3 u → (convert 33 9 (.slice (some ⟨g, 0, none⟩) N cap)).run Try.prog u = .ok (.string t) u := fun u hu => (o3.keep hu (fun _ _ h => h)).str t ht
  have hcv := hcv0 w3 (Kp.refl _ _)
  have HCV := Lib.hid hcv0
  have HI : Hid ((Try.prog.info? 24).map (·.size) = some (byteCells H).length) := Lib.hid (info24.trans (by simp [byteCells, hHl]))
  have HS : Hid (32 = (byteCells H).toArray.size) := Lib.hid (by simp [byteCells, hHl])
  clear hw3 o3 ht hH hj cc cf hwj hcv0
  go_wp2_with fail
  refine (sum_any t w3 hts).mono ?_
  rintro e w4 ⟨rfl, k4⟩
  rw [HH.out]
  have K4 := Lib.hid k4
  clear k4 hcv
  go_wp2_with (refine wpList_store_row rfl 24 (.tmp 8) (.tmp 37) rfl w4.heap.size (byteCells H).toArray rfl rfl 24 _ (heap_alloc_new w4 _) HI.out HS.out (oneU8 _) ?_)
  obtain ⟨w5, hw5⟩ : ∃ w5, w5 = (w4.alloc (.cells (byteCells (List.replicate 32 0)).toArray 24)).setRow w4.heap.size (byteCells H).toArray := ⟨_, rfl⟩
  have R5 : w5.heap[w4.heap.size]? = some (.cells (byteCells H).toArray 24 (0, 0)) := by rw [hw5]; exact setRow_heap _ _ _ _ _ _ (heap_alloc_new w4 _)
  have q5 : Kp (fun _ => False) w3 w5 := by rw [hw5]; exact (K4.out.trans (Kp.alloc (fun _ => False) w4 _) fun _ h => h.elim).trans (kp_setRow (F := fun k => k = w4.heap.size) _ w4.heap.size _ rfl) fun k hk => .inr (by have := K4.out.size; omega)
  have eq0 : (byteCells (List.replicate 32 0)).toArray = #[.int .u8 0, .int .u8 0, .int .u8 0, .int .u8 0, .int .u8 0, .int .u8 0, .int .u8 0, .int .u8 0, .int .u8 0, .int .u8 0, .int .u8 0, .int .u8 0, .int .u8 0, .int .u8 0, .int .u8 0, .int .u8 0, .int .u8 0, .int .u8 0, .int .u8 0, .int .u8 0, .int .u8 0, .int .u8 0, .int .u8 0, .int .u8 0, .int .u8 0, .int .u8 0, .int .u8 0, .int .u8 0, .int .u8 0, .int .u8 0, .int .u8 0, .int .u8 0] := rfl
  rw [eq0] at hw5
  rw [← hw5]
  clear hw5 eq0
  have hu := Try.underlying24
  have hi5 := HI.out
  have hS : (fun w' : World => w'.rangeAt w4.heap.size 0 (byteCells H) ∧ Kp (fun _ => False) w3 w') w5.drew := ⟨rng_row R5, q5.trans (Kp.drew (fun _ => False) _) fun _ h => h.elim⟩
  clear R5 q5
  refine wp_region_held_drew (S := fun w' => w'.rangeAt w4.heap.size 0 (byteCells H) ∧ Kp (fun _ => False) w3 w') (by kernel_rfl) (hS) (fun hHeld => ?_)
  refine wpAnyH_take (i := 0) (v := ?v1) rfl (by kernel_rfl) (by kernel_rfl) (by kernel_rfl) (fun _ _ _ h => h) (Or.inl ⟨by rfl, ?y1⟩) (by assumption) ?r1
  case y1 =>
    intro w hSw
    clear hSw
    go_simp
    with_reducible rfl
  simp only [Act.put, List.getElem_toArray, List.getElem_cons_succ, List.getElem_cons_zero, List.setIfInBounds_toArray, List.set_cons_zero, List.set_cons_succ]
  refine wpAnyH_take (i := 1) (v := ?v2) rfl (by kernel_rfl) (by kernel_rfl) (by kernel_rfl) (fun _ _ _ h => h) (Or.inl ⟨by rfl, ?y2⟩) (by assumption) ?r2
  case y2 =>
    intro w hSw
    clear hSw
    go_simp
    with_reducible rfl
  simp only [Act.put, List.getElem_toArray, List.getElem_cons_succ, List.getElem_cons_zero, List.setIfInBounds_toArray, List.set_cons_zero, List.set_cons_succ]
  refine wpAnyH_take (i := 2) (v := _) rfl (by kernel_rfl) (by kernel_rfl) (by kernel_rfl) (fun _ _ _ h => h) (yieldsIf_load_mid (by rfl) _ _ rfl _ _ rfl _ _ (fun _ h => h.1) hu rfl hi5) (by assumption) ?_
  simp only [Act.put, List.getElem_toArray, List.getElem_cons_succ, List.getElem_cons_zero, List.setIfInBounds_toArray, List.set_cons_zero, List.set_cons_succ]
  refine wpAnyH_take (i := 3) (v := ?v3) rfl (by kernel_rfl) (by kernel_rfl) (by kernel_rfl) (fun _ _ _ h => h) (Or.inl ⟨by rfl, ?y3⟩) (by assumption) ?r3
  case y3 =>
    intro w hSw
    clear hSw
    go_simp
    with_reducible rfl
  simp only [Act.put, List.getElem_toArray, List.getElem_cons_succ, List.getElem_cons_zero, List.setIfInBounds_toArray, List.set_cons_zero, List.set_cons_succ]
  refine wpAnyH_take (i := 4) (v := ?v4) rfl (by kernel_rfl) (by kernel_rfl) (by kernel_rfl) (fun _ _ _ h => h) (Or.inl ⟨by rfl, ?y4⟩) (by assumption) ?r4
  case y4 =>
    intro w hSw
    have hv := HCV.out w hSw.2
    clear hSw
    go_simp
    with_reducible rfl
  simp only [Act.put, List.getElem_toArray, List.getElem_cons_succ, List.getElem_cons_zero, List.setIfInBounds_toArray, List.set_cons_zero, List.set_cons_succ]
  refine wpAnyH_ready (rs := [5]) (by kernel_rfl) (by simp) ?_
  refine AllReadyH.cons rfl (fun K hK => ?_) AllReadyH.nil
  rw [if_pos (by rfl)]
  go_simp
  refine (rsum_any t _ hts).mono ?_
  rintro e w' ⟨rfl, k6⟩
  rw [HH.out]
  dsimp only
  refine hK.out _ _ (⟨rng_kp hHeld.1 k6, hHeld.2.trans k6 fun _ (h : False) => h.elim⟩) (fun hHeld => ?_)
  clear hK K
  refine wpAnyH_take (i := 6) (v := ?v5) rfl (by kernel_rfl) (by kernel_rfl) (by kernel_rfl) (fun _ _ _ h => h) (Or.inl ⟨by rfl, ?y5⟩) (by assumption) ?r5
  case y5 =>
    intro w hSw
    clear hSw
    go_simp
    with_reducible rfl
  simp only [Act.put, List.getElem_toArray, List.getElem_cons_succ, List.getElem_cons_zero, List.setIfInBounds_toArray, List.set_cons_zero, List.set_cons_succ]
  refine wpAnyH_take (i := 7) (v := ?v6) rfl (by kernel_rfl) (by kernel_rfl) (by kernel_rfl) (fun _ _ _ h => h) (Or.inl ⟨by rfl, ?y6⟩) (by assumption) ?r6
  case y6 =>
    intro w hSw
    clear hSw
    go_simp
    with_reducible rfl
  simp only [Act.put, List.getElem_toArray, List.getElem_cons_succ, List.getElem_cons_zero, List.setIfInBounds_toArray, List.set_cons_zero, List.set_cons_succ]
  refine wpAnyH_take (i := 8) (v := ?v7) rfl (by kernel_rfl) (by kernel_rfl) (by kernel_rfl) (fun _ _ _ h => h) (Or.inl ⟨by rfl, ?y7⟩) (by assumption) ?r7
  case y7 =>
    intro w hSw
    clear hSw
    go_simp
    with_reducible rfl
  simp only [Act.put, List.getElem_toArray, List.getElem_cons_succ, List.getElem_cons_zero, List.setIfInBounds_toArray, List.set_cons_zero, List.set_cons_succ]
  refine wpAnyH_done (by kernel_rfl) ?_ _
  go_wp2_with fail
  have hf := hHeld.2
  go_ret
  exact ⟨rfl, (K3.out.trans hf fun _ h => h.elim).belowS⟩

end Go.Proofs.Ytgkdjcednebgoaa
