/- Walk: the law DigestJoined. -/
import Derived.Test.YtgkdjcednebgoaaXe
import Derived.Deep.RegionHeld3
namespace Go.Proofs.Ytgkdjcednebgoaa
open Go.RowKit Go.Lib

theorem sum_k (s : ByteArray) (H : List UInt8) (w w0 : World) (hs : s.size ≤ 100000) (hH : hashOf s.data.toList = H) (P : Nat) (v0 v1 : Value) (hk : w.cell? ⟨P, 0, none⟩ = some v0 ∧ w.cell? ⟨P, 1, none⟩ = some v1 ∧ Kp (fun _ => False) w0 w) :
    Calls Try.prog 11 #[.string s] w fun e w' => e = .returned (.agg (byteCells H).toArray) ∧ (w'.cell? ⟨P, 0, none⟩ = some v0 ∧ w'.cell? ⟨P, 1, none⟩ = some v1 ∧ Kp (fun _ => False) w0 w') := by
  subst hH
  refine (sum_any s w hs).mono ?_
  rintro e w' ⟨rfl, h⟩
  exact ⟨rfl, h.cell hk.1 (fun h => h), h.cell hk.2.1 (fun h => h), hk.2.2.trans h fun _ h => h.elim⟩
theorem rsum_k (s : ByteArray) (H : List UInt8) (w w0 : World) (hs : s.size ≤ 100000) (hH : hashOf s.data.toList = H) (P : Nat) (v0 v1 : Value) (hk : w.cell? ⟨P, 0, none⟩ = some v0 ∧ w.cell? ⟨P, 1, none⟩ = some v1 ∧ Kp (fun _ => False) w0 w) :
    Calls Try.prog 12 #[.string s] w fun e w' => e = .returned (.agg (byteCells H).toArray) ∧ (w'.cell? ⟨P, 0, none⟩ = some v0 ∧ w'.cell? ⟨P, 1, none⟩ = some v1 ∧ Kp (fun _ => False) w0 w') := by
  subst hH
  refine (rsum_any s w hs).mono ?_
  rintro e w' ⟨rfl, h⟩
  exact ⟨rfl, h.cell hk.1 (fun h => h), h.cell hk.2.1 (fun h => h), hk.2.2.trans h fun _ h => h.elim⟩

theorem s4_drew {w0 u : World} {P : Nat} {v0 v1 : Value} (hk : u.cell? ⟨P, 0, none⟩ = some v0 ∧ u.cell? ⟨P, 1, none⟩ = some v1 ∧ Kp (fun _ => False) w0 u) :
    u.drew.cell? ⟨P, 0, none⟩ = some v0 ∧ u.drew.cell? ⟨P, 1, none⟩ = some v1 ∧ Kp (fun _ => False) w0 u.drew := ⟨hk.1, hk.2.1, hk.2.2.trans (Kp.drew (fun _ => False) _) fun _ h => h.elim⟩

theorem cut_join (x : ByteArray) (k : Nat) (hk : k ≤ x.size) : x.extract 0 k ++ x.extract k x.size = x := by
  apply ba_ext
  have h := size_list x
  rw [ByteArray.data_append, Array.toList_append, ba_extract, ba_extract]
  simp only [List.drop_zero, Nat.sub_zero]
  rw [List.take_of_length_le (l := List.drop k x.data.toList) (by rw [List.length_drop]; omega), List.take_append_drop]

set_option maxRecDepth 100000 in
set_option maxHeartbeats 8000000 in
theorem joined_walk (W : World) (s : ByteArray) (at0 : Int) (hs : s.size ≤ 9223372036854775807) : Calls Try.prog 8 #[.string s, .int .i64 at0] W fun e w' => e = .returned (.bool true) ∧ Below W.heap.size W w' := by
  obtain ⟨m, hm⟩ : ∃ m : Nat, m = min s.size 300 := ⟨_, rfl⟩
  have hm1 : m ≤ s.size := by omega
  have hm2 : m ≤ 300 := by omega
  obtain ⟨x, hx⟩ : ∃ x, x = s.extract 0 m := ⟨_, rfl⟩
  have hxs : x.size ≤ 300 := by rw [hx, ByteArray.size_extract]; omega
  have hxi : (x.size : Int) ≤ 300 := by omega
  have hxm : x.size = m := by rw [hx, ByteArray.size_extract]; omega
  have hxmi : (m : Int) = (x.size : Int) := by omega
  have hn0 : 0 ≤ at0 % ((m : Int) + 1) := Int.emod_nonneg _ (by omega)
  obtain ⟨k, hk⟩ : ∃ k : Nat, at0 % ((m : Int) + 1) = (k : Int) := ⟨(at0 % ((m : Int) + 1)).toNat, by omega⟩
  have hks : k ≤ x.size := by have := Int.emod_lt_of_pos at0 (show (0 : Int) < (m : Int) + 1 by omega); omega
  obtain ⟨p0, hp0⟩ : ∃ p, p = x.extract 0 k := ⟨_, rfl⟩
  obtain ⟨p1, hp1⟩ : ∃ p, p = x.extract k x.size := ⟨_, rfl⟩
  have hcat0 : p0 ++ p1 = x := by rw [hp0, hp1]; exact cut_join x k hks
  have hz0 : p0.size ≤ 300 := by rw [hp0, ByteArray.size_extract]; omega
  have hz1 : p1.size ≤ 300 := by rw [hp1, ByteArray.size_extract]; omega
  obtain ⟨H, hH⟩ : ∃ H, hashOf x.data.toList = H := ⟨_, rfl⟩
  obtain ⟨G, hG⟩ : ∃ H, hashOf p1.data.toList = H := ⟨_, rfl⟩
  have hHl : H.length = 32 := by rw [← hH]; exact hashOf_length _
  have hGl : G.length = 32 := by rw [← hG]; exact hashOf_length _
  have heq := run_eq32 H H hHl hHl
  have heq2 := run_eq32 G G hGl hGl
  rw [beq_self_eq_true] at heq heq2
  have HM := Lib.hid hm
  have HCAT := Lib.hid hcat0
  clear hcat0
  have HX := Lib.hid hx.symm
  have HK := Lib.hid hk
  have HH := Lib.hid hH
  have HG := Lib.hid hG
  have P0 := Lib.hid hp0.symm
  have P1 := Lib.hid hp1.symm
  have ki : (k : Int) ≤ (x.size : Int) := by omega
  have ki0 : (0 : Int) ≤ k := by omega
  have HXM := Lib.hid hxm
  clear hm hx hk hH hG hp0 hp1 hxm hxmi hn0
  go_enter Try.func8, Try.ntmps8
  go_wp2_with fail
  refine (sanity_any W).mono ?_
  rintro e w1 ⟨rfl, k1⟩
  have K1 := Lib.hid k1
  clear k1
  go_wp2_with (refine wpList_min rfl (.tmp 12) (.const (.int .i64 300)) #[3, 3] rfl .i64 _ _ (m : Int) rfl rfl (by have := HM.out; omega) ?_)
  rw [HX.out]
  refine (mod_any at0 ((m : Int) + 1) _ (by omega) (by omega)).mono ?_
  rintro e w' ⟨rfl, rfl⟩
  rw [HK.out]
  go_wp2_with fail
  refine wp_region_held_drew (S := fun _ => True) (by kernel_rfl) (trivial) (fun hHeld => ?_)
  refine wpAnyH_take (i := 0) (v := ?v1) rfl (by kernel_rfl) (by kernel_rfl) (by kernel_rfl) (fun _ _ _ h => h) (Or.inl ⟨by rfl, ?y1⟩) (by assumption) ?r1
  case y1 =>
    intro w hSw
    clear hSw
    go_simp
    with_reducible rfl
  simp only [Act.put, List.getElem_toArray, List.getElem_cons_succ, List.getElem_cons_zero, List.setIfInBounds_toArray, List.set_cons_zero, List.set_cons_succ]
  refine wpAnyH_take (i := 1) (v := ?v2) rfl (by kernel_rfl) (by kernel_rfl) (by kernel_rfl) (fun _ _ _ h => h) (Or.inl ⟨by rfl, ?y2⟩) (by assumption) ?r2
  case y2 =>
    intro w hSw
    clear hSw
    go_simp
    with_reducible rfl
  simp only [Act.put, List.getElem_toArray, List.getElem_cons_succ, List.getElem_cons_zero, List.setIfInBounds_toArray, List.set_cons_zero, List.set_cons_succ]
  refine wpAnyH_take (i := 2) (v := ?v3) rfl (by kernel_rfl) (by kernel_rfl) (by kernel_rfl) (fun _ _ _ h => h) (Or.inl ⟨by rfl, ?y3⟩) (by assumption) ?r3
  case y3 =>
    intro w hSw
    clear hSw
    go_simp
    rw [P0.out]
  simp only [Act.put, List.getElem_toArray, List.getElem_cons_succ, List.getElem_cons_zero, List.setIfInBounds_toArray, List.set_cons_zero, List.set_cons_succ]
  refine wpAnyH_take (i := 3) (v := ?v4) rfl (by kernel_rfl) (by kernel_rfl) (by kernel_rfl) (fun _ _ _ h => h) (Or.inl ⟨by rfl, ?y4⟩) (by assumption) ?r4
  case y4 =>
    intro w hSw
    clear hSw
    go_simp
    with_reducible rfl
  simp only [Act.put, List.getElem_toArray, List.getElem_cons_succ, List.getElem_cons_zero, List.setIfInBounds_toArray, List.set_cons_zero, List.set_cons_succ]
  refine wpAnyH_take (i := 4) (v := ?v5) rfl (by kernel_rfl) (by kernel_rfl) (by kernel_rfl) (fun _ _ _ h => h) (Or.inl ⟨by rfl, ?y5⟩) (by assumption) ?r5
  case y5 =>
    intro w hSw
    clear hSw
    go_simp
    with_reducible rfl
  simp only [Act.put, List.getElem_toArray, List.getElem_cons_succ, List.getElem_cons_zero, List.setIfInBounds_toArray, List.set_cons_zero, List.set_cons_succ]
  refine wpAnyH_take (i := 5) (v := ?v6) rfl (by kernel_rfl) (by kernel_rfl) (by kernel_rfl) (fun _ _ _ h => h) (Or.inl ⟨by rfl, ?y6⟩) (by assumption) ?r6
  case y6 =>
    intro w hSw
    clear hSw
    go_simp
    rw [P1.out]
  simp only [Act.put, List.getElem_toArray, List.getElem_cons_succ, List.getElem_cons_zero, List.setIfInBounds_toArray, List.set_cons_zero, List.set_cons_succ]
  refine wpAnyH_take (i := 6) (v := ?v7) rfl (by kernel_rfl) (by kernel_rfl) (by kernel_rfl) (fun _ _ _ h => h) (Or.inl ⟨by rfl, ?y7⟩) (by assumption) ?r7
  case y7 =>
    intro w hSw
    clear hSw
    go_simp
    with_reducible rfl
  simp only [Act.put, List.getElem_toArray, List.getElem_cons_succ, List.getElem_cons_zero, List.setIfInBounds_toArray, List.set_cons_zero, List.set_cons_succ]
  refine wpAnyH_ready (rs := [7]) (by kernel_rfl) (by simp) ?_
  refine AllReadyH.cons rfl (fun K hK => ?_) AllReadyH.nil
  rw [if_pos (by rfl)]
  go_simp
  refine hK.out _ _ (trivial) (fun hHeld => ?_)
  clear hK K
  refine wpAnyH_ready (rs := [8]) (by kernel_rfl) (by simp) ?_
  refine AllReadyH.cons rfl (fun K hK => ?_) AllReadyH.nil
  rw [if_pos (by rfl)]
  go_simp
  refine hK.out _ _ (trivial) (fun hHeld => ?_)
  clear hK K
  refine wpAnyH_done (by kernel_rfl) ?_ _
  obtain ⟨w4, hw4⟩ : ∃ w4, w4 = (w1.alloc (.cells #[.string p0, .string p1] 34)).drew := ⟨_, rfl⟩
  have C0 : w4.cell? ⟨w1.heap.size, 0, none⟩ = some (.string p0) := by rw [hw4]; exact cell_of_row _ _ 0 _ _ _ (heap_alloc_new w1 _)
  have C1 : w4.cell? ⟨w1.heap.size, 1, none⟩ = some (.string p1) := by rw [hw4]; exact cell_of_row _ _ 1 _ _ _ (heap_alloc_new w1 _)
  have K4 : Hid (Kp (fun _ => False) W w4) := Lib.hid (by rw [hw4]; exact (K1.out.trans (Kp.alloc (fun _ => False) w1 _) fun _ h => h.elim).trans (Kp.drew (fun _ => False) _) fun _ h => h.elim)
  rw [← hw4]
  clear hw4
  have hjs : ¬ 9223372036854775807 < p0.size + p1.size := by omega
  have hks := s4_drew (P := w1.heap.size) ⟨C0, C1, K4.out⟩
  go_wp2_with fail
  refine wp_region_held_drew (S := fun w' => w'.cell? ⟨w1.heap.size, 0, none⟩ = some (.string p0) ∧ w'.cell? ⟨w1.heap.size, 1, none⟩ = some (.string p1) ∧ Kp (fun _ => False) W w') (by kernel_rfl) (hks) (fun hHeld => ?_)
  refine wpAnyH_take (i := 0) (v := ?v8) rfl (by kernel_rfl) (by kernel_rfl) (by kernel_rfl) (fun _ _ _ h => h) (Or.inl ⟨by rfl, ?y8⟩) (by assumption) ?r8
  case y8 =>
    intro w hSw
    clear hSw
    go_simp
    with_reducible rfl
  simp only [Act.put, List.getElem_toArray, List.getElem_cons_succ, List.getElem_cons_zero, List.setIfInBounds_toArray, List.set_cons_zero, List.set_cons_succ]
  refine wpAnyH_take (i := 1) (v := ?v9) rfl (by kernel_rfl) (by kernel_rfl) (by kernel_rfl) (fun _ _ _ h => h) (Or.inl ⟨by rfl, ?y9⟩) (by assumption) ?r9
  case y9 =>
    intro w hSw
    clear hSw
    go_simp
    with_reducible rfl
  simp only [Act.put, List.getElem_toArray, List.getElem_cons_succ, List.getElem_cons_zero, List.setIfInBounds_toArray, List.set_cons_zero, List.set_cons_succ]
  refine wpAnyH_take (i := 2) (v := ?v10) rfl (by kernel_rfl) (by kernel_rfl) (by kernel_rfl) (fun _ _ _ h => h) (Or.inl ⟨by rfl, ?y10⟩) (by assumption) ?r10
  case y10 =>
    intro w hSw
    clear hSw
    go_simp
    with_reducible rfl
  simp only [Act.put, List.getElem_toArray, List.getElem_cons_succ, List.getElem_cons_zero, List.setIfInBounds_toArray, List.set_cons_zero, List.set_cons_succ]
  refine wpAnyH_take (i := 3) (v := ?v11) rfl (by kernel_rfl) (by kernel_rfl) (by kernel_rfl) (fun _ _ _ h => h) (Or.inl ⟨by rfl, ?y11⟩) (by assumption) ?r11
  case y11 =>
    intro w hSw
    go_simp
    with_reducible rfl
  simp only [Act.put, List.getElem_toArray, List.getElem_cons_succ, List.getElem_cons_zero, List.setIfInBounds_toArray, List.set_cons_zero, List.set_cons_succ]
  refine wpAnyH_take (i := 4) (v := ?v12) rfl (by kernel_rfl) (by kernel_rfl) (by kernel_rfl) (fun _ _ _ h => h) (Or.inl ⟨by rfl, ?y12⟩) (by assumption) ?r12
  case y12 =>
    intro w hSw
    clear hSw
    go_simp
    with_reducible rfl
  simp only [Act.put, List.getElem_toArray, List.getElem_cons_succ, List.getElem_cons_zero, List.setIfInBounds_toArray, List.set_cons_zero, List.set_cons_succ]
  refine wpAnyH_take (i := 5) (v := ?v13) rfl (by kernel_rfl) (by kernel_rfl) (by kernel_rfl) (fun _ _ _ h => h) (Or.inl ⟨by rfl, ?y13⟩) (by assumption) ?r13
  case y13 =>
    intro w hSw
    go_simp
    with_reducible rfl
  simp only [Act.put, List.getElem_toArray, List.getElem_cons_succ, List.getElem_cons_zero, List.setIfInBounds_toArray, List.set_cons_zero, List.set_cons_succ]
  refine wpAnyH_take (i := 6) (v := ?v14) rfl (by kernel_rfl) (by kernel_rfl) (by kernel_rfl) (fun _ _ _ h => h) (Or.inl ⟨by rfl, ?y14⟩) (by assumption) ?r14
  case y14 =>
    intro w hSw
    clear hSw
    go_simp
    rw [HCAT.out]
  simp only [Act.put, List.getElem_toArray, List.getElem_cons_succ, List.getElem_cons_zero, List.setIfInBounds_toArray, List.set_cons_zero, List.set_cons_succ]
  refine wpAnyH_take (i := 8) (v := ?v15) rfl (by kernel_rfl) (by kernel_rfl) (by kernel_rfl) (fun _ _ _ h => h) (Or.inl ⟨by rfl, ?y15⟩) (by assumption) ?r15
  case y15 =>
    intro w hSw
    clear hSw
    go_simp
    with_reducible rfl
  simp only [Act.put, List.getElem_toArray, List.getElem_cons_succ, List.getElem_cons_zero, List.setIfInBounds_toArray, List.set_cons_zero, List.set_cons_succ]
  refine wpAnyH_ready (rs := [7]) (by kernel_rfl) (by simp) ?_
  refine AllReadyH.cons rfl (fun K hK => ?_) AllReadyH.nil
  rw [if_pos (by rfl)]
  go_simp
  refine (sum_k x H _ W (by omega) HH.out w1.heap.size _ _ (by assumption)).mono ?_
  rintro e w' ⟨rfl, hss⟩
  dsimp only
  refine hK.out _ _ (hss) (fun hHeld => ?_)
  clear hK K
  refine wpAnyH_ready (rs := [9]) (by kernel_rfl) (by simp) ?_
  refine AllReadyH.cons rfl (fun K hK => ?_) AllReadyH.nil
  rw [if_pos (by rfl)]
  go_simp
  refine (sum_k x H _ W (by omega) HH.out w1.heap.size _ _ (by assumption)).mono ?_
  rintro e w' ⟨rfl, hss⟩
  dsimp only
  refine hK.out _ _ (hss) (fun hHeld => ?_)
  clear hK K
  refine wpAnyH_take (i := 10) (v := ?v16) rfl (by kernel_rfl) (by kernel_rfl) (by kernel_rfl) (fun _ _ _ h => h) (Or.inl ⟨by rfl, ?y16⟩) (by assumption) ?r16
  case y16 =>
    intro w hSw
    clear hSw
    go_simp
    with_reducible rfl
  simp only [Act.put, List.getElem_toArray, List.getElem_cons_succ, List.getElem_cons_zero, List.setIfInBounds_toArray, List.set_cons_zero, List.set_cons_succ]
  refine wpAnyH_take (i := 11) (v := ?v17) rfl (by kernel_rfl) (by kernel_rfl) (by kernel_rfl) (fun _ _ _ h => h) (Or.inl ⟨by rfl, ?y17⟩) (by assumption) ?r17
  case y17 =>
    intro w hSw
    clear hSw
    go_simp
    with_reducible rfl
  simp only [Act.put, List.getElem_toArray, List.getElem_cons_succ, List.getElem_cons_zero, List.setIfInBounds_toArray, List.set_cons_zero, List.set_cons_succ]
  refine wpAnyH_take (i := 12) (v := ?v18) rfl (by kernel_rfl) (by kernel_rfl) (by kernel_rfl) (fun _ _ _ h => h) (Or.inl ⟨by rfl, ?y18⟩) (by assumption) ?r18
  case y18 =>
    intro w hSw
    clear hSw
    go_simp
    with_reducible rfl
  simp only [Act.put, List.getElem_toArray, List.getElem_cons_succ, List.getElem_cons_zero, List.setIfInBounds_toArray, List.set_cons_zero, List.set_cons_succ]
  refine wpAnyH_take (i := 13) (v := ?v19) rfl (by kernel_rfl) (by kernel_rfl) (by kernel_rfl) (fun _ _ _ h => h) (Or.inl ⟨by rfl, ?y19⟩) (by assumption) ?r19
  case y19 =>
    intro w hSw
    clear hSw
    go_simp
    with_reducible rfl
  simp only [Act.put, List.getElem_toArray, List.getElem_cons_succ, List.getElem_cons_zero, List.setIfInBounds_toArray, List.set_cons_zero, List.set_cons_succ]
  refine wpAnyH_take (i := 15) (v := ?v20) rfl (by kernel_rfl) (by kernel_rfl) (by kernel_rfl) (fun _ _ _ h => h) (Or.inl ⟨by rfl, ?y20⟩) (by assumption) ?r20
  case y20 =>
    intro w hSw
    clear hSw
    go_simp
    with_reducible rfl
  simp only [Act.put, List.getElem_toArray, List.getElem_cons_succ, List.getElem_cons_zero, List.setIfInBounds_toArray, List.set_cons_zero, List.set_cons_succ]
  refine wpAnyH_ready (rs := [14]) (by kernel_rfl) (by simp) ?_
  refine AllReadyH.cons rfl (fun K hK => ?_) AllReadyH.nil
  rw [if_pos (by rfl)]
  go_simp
  refine (sum_k x H _ W (by omega) HH.out w1.heap.size _ _ (by assumption)).mono ?_
  rintro e w' ⟨rfl, hss⟩
  dsimp only
  refine hK.out _ _ (hss) (fun hHeld => ?_)
  clear hK K
  refine wpAnyH_ready (rs := [16]) (by kernel_rfl) (by simp) ?_
  refine AllReadyH.cons rfl (fun K hK => ?_) AllReadyH.nil
  rw [if_pos (by rfl)]
  go_simp
  refine (rsum_k x H _ W (by omega) HH.out w1.heap.size _ _ (by assumption)).mono ?_
  rintro e w' ⟨rfl, hss⟩
  dsimp only
  refine hK.out _ _ (hss) (fun hHeld => ?_)
  clear hK K
  refine wpAnyH_take (i := 17) (v := ?v21) rfl (by kernel_rfl) (by kernel_rfl) (by kernel_rfl) (fun _ _ _ h => h) (Or.inl ⟨by rfl, ?y21⟩) (by assumption) ?r21
  case y21 =>
    intro w hSw
    clear hSw
    go_simp
    with_reducible rfl
  simp only [Act.put, List.getElem_toArray, List.getElem_cons_succ, List.getElem_cons_zero, List.setIfInBounds_toArray, List.set_cons_zero, List.set_cons_succ]
  refine wpAnyH_take (i := 18) (v := ?v22) rfl (by kernel_rfl) (by kernel_rfl) (by kernel_rfl) (fun _ _ _ h => h) (Or.inl ⟨by rfl, ?y22⟩) (by assumption) ?r22
  case y22 =>
    intro w hSw
    clear hSw
    go_simp
    with_reducible rfl
  simp only [Act.put, List.getElem_toArray, List.getElem_cons_succ, List.getElem_cons_zero, List.setIfInBounds_toArray, List.set_cons_zero, List.set_cons_succ]
  refine wpAnyH_take (i := 19) (v := ?v23) rfl (by kernel_rfl) (by kernel_rfl) (by kernel_rfl) (fun _ _ _ h => h) (Or.inl ⟨by rfl, ?y23⟩) (by assumption) ?r23
  case y23 =>
    intro w hSw
    clear hSw
    go_simp
    with_reducible rfl
  simp only [Act.put, List.getElem_toArray, List.getElem_cons_succ, List.getElem_cons_zero, List.setIfInBounds_toArray, List.set_cons_zero, List.set_cons_succ]
  refine wpAnyH_take (i := 20) (v := ?v24) rfl (by kernel_rfl) (by kernel_rfl) (by kernel_rfl) (fun _ _ _ h => h) (Or.inl ⟨by rfl, ?y24⟩) (by assumption) ?r24
  case y24 =>
    intro w hSw
    clear hSw
    go_simp
    with_reducible rfl
  simp only [Act.put, List.getElem_toArray, List.getElem_cons_succ, List.getElem_cons_zero, List.setIfInBounds_toArray, List.set_cons_zero, List.set_cons_succ]
  refine wpAnyH_take (i := 21) (v := ?v25) rfl (by kernel_rfl) (by kernel_rfl) (by kernel_rfl) (fun _ _ _ h => h) (Or.inl ⟨by rfl, ?y25⟩) (by assumption) ?r25
  case y25 =>
    intro w hSw
    go_simp
    with_reducible rfl
  simp only [Act.put, List.getElem_toArray, List.getElem_cons_succ, List.getElem_cons_zero, List.setIfInBounds_toArray, List.set_cons_zero, List.set_cons_succ]
  refine wpAnyH_take (i := 23) (v := ?v26) rfl (by kernel_rfl) (by kernel_rfl) (by kernel_rfl) (fun _ _ _ h => h) (Or.inl ⟨by rfl, ?y26⟩) (by assumption) ?r26
  case y26 =>
    intro w hSw
    clear hSw
    go_simp
    with_reducible rfl
  simp only [Act.put, List.getElem_toArray, List.getElem_cons_succ, List.getElem_cons_zero, List.setIfInBounds_toArray, List.set_cons_zero, List.set_cons_succ]
  refine wpAnyH_take (i := 24) (v := ?v27) rfl (by kernel_rfl) (by kernel_rfl) (by kernel_rfl) (fun _ _ _ h => h) (Or.inl ⟨by rfl, ?y27⟩) (by assumption) ?r27
  case y27 =>
    intro w hSw
    go_simp
    with_reducible rfl
  simp only [Act.put, List.getElem_toArray, List.getElem_cons_succ, List.getElem_cons_zero, List.setIfInBounds_toArray, List.set_cons_zero, List.set_cons_succ]
  refine wpAnyH_ready (rs := [22]) (by kernel_rfl) (by simp) ?_
  refine AllReadyH.cons rfl (fun K hK => ?_) AllReadyH.nil
  rw [if_pos (by rfl)]
  go_simp
  refine (sum_k p1 G _ W (by omega) HG.out w1.heap.size _ _ (by assumption)).mono ?_
  rintro e w' ⟨rfl, hss⟩
  dsimp only
  refine hK.out _ _ (hss) (fun hHeld => ?_)
  clear hK K
  refine wpAnyH_ready (rs := [25]) (by kernel_rfl) (by simp) ?_
  refine AllReadyH.cons rfl (fun K hK => ?_) AllReadyH.nil
  rw [if_pos (by rfl)]
  go_simp
  refine (rsum_k p1 G _ W (by omega) HG.out w1.heap.size _ _ (by assumption)).mono ?_
  rintro e w' ⟨rfl, hss⟩
  dsimp only
  refine hK.out _ _ (hss) (fun hHeld => ?_)
  clear hK K
  refine wpAnyH_take (i := 26) (v := ?v28) rfl (by kernel_rfl) (by kernel_rfl) (by kernel_rfl) (fun _ _ _ h => h) (Or.inl ⟨by rfl, ?y28⟩) (by assumption) ?r28
  case y28 =>
    intro w hSw
    clear hSw
    go_simp
    with_reducible rfl
  simp only [Act.put, List.getElem_toArray, List.getElem_cons_succ, List.getElem_cons_zero, List.setIfInBounds_toArray, List.set_cons_zero, List.set_cons_succ]
  refine wpAnyH_take (i := 27) (v := ?v29) rfl (by kernel_rfl) (by kernel_rfl) (by kernel_rfl) (fun _ _ _ h => h) (Or.inl ⟨by rfl, ?y29⟩) (by assumption) ?r29
  case y29 =>
    intro w hSw
    clear hSw
    go_simp
    with_reducible rfl
  simp only [Act.put, List.getElem_toArray, List.getElem_cons_succ, List.getElem_cons_zero, List.setIfInBounds_toArray, List.set_cons_zero, List.set_cons_succ]
  refine wpAnyH_take (i := 28) (v := ?v30) rfl (by kernel_rfl) (by kernel_rfl) (by kernel_rfl) (fun _ _ _ h => h) (Or.inl ⟨by rfl, ?y30⟩) (by assumption) ?r30
  case y30 =>
    intro w hSw
    clear hSw
    go_simp
    with_reducible rfl
  simp only [Act.put, List.getElem_toArray, List.getElem_cons_succ, List.getElem_cons_zero, List.setIfInBounds_toArray, List.set_cons_zero, List.set_cons_succ]
  refine wpAnyH_done (by kernel_rfl) ?_ _
  go_wp2_with fail
  have hf := hss.2.2
  go_ret
  exact ⟨rfl, hf.belowS⟩

end Go.Proofs.Ytgkdjcednebgoaa
