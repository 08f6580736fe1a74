/- Walk: the law DiskOwn. -/
import Derived.Test.YteekoocbdapciaaC1
namespace Go.Proofs.Yteekoocbdapciaa
open Go.RowKit Go.Lib

/-- The pair's cells in a later world. -/
theorem pair_cells {W w0 w : World} {t0 t1 : Int} (hq : w0.heap[W.heap.size]? = some (.cells #[.int .i64 t0, .int .i64 t1] 42 (0, 0))) (hk : Kp (fun _ => False) w0 w) :
    w.cell? ⟨W.heap.size, 0, none⟩ = some (.int .i64 t0) ∧ w.cell? ⟨W.heap.size, 1, none⟩ = some (.int .i64 t1) := by
  have h := hk.heap hq (fun h => h)
  exact ⟨cell_of_row w _ 0 _ _ _ h, cell_of_row w _ 1 _ _ _ h⟩

theorem write_calls {s : DS} {off : Int} {t : ByteArray} (h : s.power = 0) (h0 : 0 ≤ off) (h1 : off + t.size ≤ 16777216) (hc : s.calls = 0) : (s.writeS off t).calls = 1 := by
  rw [writeS_ok h h0 h1]
  show wrap64 (s.calls + 1) = 1
  rw [hc]
  decide +kernel

set_option maxHeartbeats 4000000 in
theorem own_walk (W : World) (s : ByteArray) (v : Value) (q : List Int) (t0 t1 : Int) (hs : s.size ≤ 9223372036854775807) (hq : Ints W v q) (hql : q.length ≤ 9223372036854775807) :
    Calls Try.prog 8 #[.string s, v, .agg #[.int .i64 t0, .int .i64 t1]] W fun e w' => e = .returned (.bool true) ∧ Below W.heap.size W w' := by
  obtain ⟨m, hm⟩ : ∃ m : Nat, m = min s.size 150 := ⟨_, rfl⟩
  have hm1 : m ≤ s.size := by omega
  have hm2 : m ≤ 150 := by omega
  obtain ⟨a, ha⟩ : ∃ a, a = s.extract 0 m ++ ⟨#[101, 110, 100]⟩ := ⟨_, rfl⟩
  have has : a.size ≤ 153 := by
    have e3 : (ByteArray.mk #[101, 110, 100]).size = 3 := rfl
    rw [ha, ByteArray.size_append, ByteArray.size_extract, e3]
    omega
  obtain ⟨k0, hk0⟩ : ∃ k, k = t0 % 100 := ⟨_, rfl⟩
  obtain ⟨k1, hk1⟩ : ∃ k, k = t1 % 100 := ⟨_, rfl⟩
  have l0 : 0 ≤ k0 := by omega
  have l1 : k0 < 100 := by omega
  have l2 : 0 ≤ k1 := by omega
  have l3 : k1 < 100 := by omega
  have HK0 := Lib.hid hk0.symm
  have HK1 := Lib.hid hk1.symm
  have HM := Lib.hid hm
  have HA := Lib.hid ha.symm
  have HQ := Lib.hid hq
  clear hk0 hk1 hm ha hq
  obtain ⟨s1, hs1⟩ : ∃ s1, s1 = fresh.writeS 0 a := ⟨_, rfl⟩
  obtain ⟨s2, hs2⟩ : ∃ s2, s2 = s1.syncS := ⟨_, rfl⟩
  obtain ⟨s3, hs3⟩ : ∃ s3, s3 = s2.writeS k0 ⟨#[110, 101, 119]⟩ := ⟨_, rfl⟩
  obtain ⟨s4, hs4⟩ : ∃ s4, s4 = s3.crash q := ⟨_, rfl⟩
  obtain ⟨s5, hs5⟩ : ∃ s5, s5 = s4.writeS k1 ⟨#[99, 114, 97, 115, 104]⟩ := ⟨_, rfl⟩
  have p1 : s1.power = 0 := by rw [hs1, writeS_power]; rfl
  have p2 : s2.power = 0 := by rw [hs2, syncS_power]; exact p1
  have p3 : s3.power = 0 := by rw [hs3, writeS_power]; exact p2
  have p4 : s4.power = 0 := by rw [hs4]; rfl
  have n1 : s1.later.length ≤ 153 := by rw [hs1]; have := writeS_len fresh 0 a; simp [fresh] at this ⊢; omega
  have n2 : s2.later.length ≤ 153 := by rw [hs2, syncS_ok p1]; simp [DS.sync]
  have n3 : s3.later.length ≤ 156 := by
    rw [hs3]
    have := writeS_len s2 k0 ⟨#[110, 101, 119]⟩
    have e3 : (ByteArray.mk #[110, 101, 119]).size = 3 := rfl
    omega
  have n4 : s4.later.length ≤ 156 := by rw [hs4]; simp [DS.crash]
  have c5 : s5.calls = 1 := by
    rw [hs5]
    refine write_calls p4 l2 ?_ (by rw [hs4]; rfl)
    have e3 : (ByteArray.mk #[99, 114, 97, 115, 104]).size = 5 := rfl
    omega
  have v1 : fresh.writeC 0 a = 0 := writeC_ok rfl (by decide) (by omega)
  have v2 : s1.syncC = 0 := syncC_ok p1
  have v3 : s2.writeC k0 ⟨#[110, 101, 119]⟩ = 0 := writeC_ok p2 l0 (by have e3 : (ByteArray.mk #[110, 101, 119]).size = 3 := rfl; omega)
  have v5 : s4.writeC k1 ⟨#[99, 114, 97, 115, 104]⟩ = 0 := writeC_ok p4 l2 (by have e3 : (ByteArray.mk #[99, 114, 97, 115, 104]).size = 5 := rfl; omega)
  have v6 : s3.writeC 0 ⟨#[99, 104, 97, 110, 103, 101, 100, 32, 97, 103, 97, 105, 110]⟩ = 0 := writeC_ok p3 (by decide) (by have e3 : (ByteArray.mk #[99, 104, 97, 110, 103, 101, 100, 32, 97, 103, 97, 105, 110]).size = 13 := rfl; omega)
  have V1 := Lib.hid v1
  have V2 := Lib.hid v2
  have V3 := Lib.hid v3
  have V5 := Lib.hid v5
  have V6 := Lib.hid v6
  have C5 := Lib.hid c5
  have S1 := Lib.hid hs1.symm
  have S2 := Lib.hid hs2.symm
  have S3 := Lib.hid hs3.symm
  have S4 := Lib.hid hs4.symm
  have S5 := Lib.hid hs5.symm
  clear v1 v2 v3 v5 v6 c5 hs1 hs2 hs3 hs4 hs5 p1 p2 p3 p4
  go_enter Try.func8, Try.ntmps8
  go_wp2_with fail
  obtain ⟨w0, hw0⟩ : ∃ w0, w0 = W.alloc (.cells #[.int .i64 t0, .int .i64 t1] 42) := ⟨_, rfl⟩
  have QB : Hid (w0.heap[W.heap.size]? = some (.cells #[.int .i64 t0, .int .i64 t1] 42 (0, 0))) := by rw [hw0]; exact heap_alloc_new W _
  have BW : Hid (Below W.heap.size W w0) := by rw [hw0]; exact (Kp.alloc (fun _ => False) W _).belowS
  rw [← hw0]
  clear hw0
  refine (sanity_any _).mono ?_
  rintro e w1 ⟨rfl, q1⟩
  have K1 := Lib.hid q1
  clear q1
  go_wp2_with fail
  refine (new_D w1).mono ?_
  rintro e w2 ⟨rfl, d2, q2⟩
  have K2 := Lib.hid (K1.out.trans q2 fun _ h => h.elim)
  have D2 := Lib.hid (d2.down K1.out.size)
  clear q2 d2
  go_wp2_with (refine wpList_min rfl (.tmp 25) (.const (.int .i64 150)) #[3, 3] rfl .i64 _ _ (m : Int) rfl rfl (by have := HM.out; omega) ?_)
  rw [HA.out]
  refine (write_at D2.out 0 a 0 V1.out (by omega) (by simp [fresh])).mono ?_
  rintro e w3 ⟨rfl, a1, a2, a3, d3, q3, f3⟩
  rw [S1.out] at d3
  have K3 := Lib.hid (D2.out.kpB q3 K2.out (Nat.le_refl _))
  have D3 := Lib.hid d3
  clear d3 q3 f3
  go_wp2_with fail
  refine (sync_at D3.out 0 V2.out).mono ?_
  rintro e w4 ⟨rfl, a4, a5, a6, d4, q4, f4⟩
  rw [S2.out] at d4
  have K4 := Lib.hid (D3.out.kpB q4 K3.out (Nat.le_refl _))
  have D4 := Lib.hid d4
  clear d4 q4 f4
  obtain ⟨c0, c1⟩ := pair_cells QB.out K4.out
  go_wp2_with fail
  refine (mod_any t0 100 _ (by omega) (by omega)).mono ?_
  rintro e w' ⟨rfl, rfl⟩
  rw [HK0.out]
  go_wp2_with fail
  refine (write_at D4.out k0 _ 0 V3.out (by decide) (by omega)).mono ?_
  rintro e w5 ⟨rfl, a7, a8, a9, d5, q5, f5⟩
  rw [S3.out] at d5
  have K5 := Lib.hid (D4.out.kpB q5 K4.out (Nat.le_refl _))
  have D5 := Lib.hid d5
  clear d5 q5 f5 c0 c1
  go_wp2_with fail
  refine (crash_any D5.out v q (HQ.out.below (BW.out.trans (K5.out.belowS.mono BW.out.size))) (by omega) hql).mono ?_
  rintro e w6 ⟨g, b1, b2, rfl, d6, q6⟩
  rw [S4.out] at d6
  have K6 := Lib.hid (K5.out.trans q6 fun _ h => h.elim)
  have E6 := Lib.hid (D5.out.keep q6 (fun _ _ h => h))
  have LT := Lib.hid (fun k (h : foot w1.heap.size a7 a8 a9 k) => (D5.out.foot_lt h).2)
  have D6 := Lib.hid d6
  have hs5 : w0.heap.size ≤ w5.heap.size := K5.out.size
  clear d6 q6
  go_wp2_with fail
  refine (read_any E6.out 0 500).mono ?_
  rintro e w7 ⟨rfl, q7⟩
  have K7 := Lib.hid (K6.out.trans (kp_drewN q7) fun _ h => h.elim)
  have E7 := Lib.hid (E6.out.keep (kp_drewN q7) (fun _ _ h => h))
  have D7 := Lib.hid (D6.out.keep (kp_drewN q7) (fun _ _ h => h))
  clear q7
  obtain ⟨c0, c1⟩ := pair_cells QB.out K7.out
  go_wp2_with fail
  refine (mod_any t1 100 _ (by omega) (by omega)).mono ?_
  rintro e w' ⟨rfl, rfl⟩
  rw [HK1.out]
  go_wp2_with fail
  refine (write_at D7.out k1 _ 0 V5.out (by decide) (by omega)).mono ?_
  rintro e w8 ⟨rfl, b3, b4, b5, d8, q8, f8⟩
  rw [S5.out] at d8
  have K8 := Lib.hid (D7.out.kpB q8 K7.out hs5)
  have E8 := Lib.hid (E7.out.keep q8 (fun k h h' => by have := (D7.out.foot_lt h').1; have := LT.out k h; omega))
  have D8 := Lib.hid d8
  have F8 := Lib.hid (fun k (h : foot g b3 b4 b5 k) => (d8.foot_lt h).1)
  clear d8 q8 f8 c0 c1
  go_wp2_with fail
  refine (read_any D8.out 0 500).mono ?_
  rintro e w9 ⟨rfl, q9⟩
  have K9 := Lib.hid (K8.out.trans (kp_drewN q9) fun _ h => h.elim)
  have E9 := Lib.hid (E8.out.keep (kp_drewN q9) (fun _ _ h => h))
  have D9 := Lib.hid (D8.out.keep (kp_drewN q9) (fun _ _ h => h))
  clear q9
  go_wp2_with fail
  refine (read_any E9.out 0 500).mono ?_
  rintro e w10 ⟨rfl, q10⟩
  have K10 := Lib.hid (K9.out.trans (kp_drewN q10) fun _ h => h.elim)
  have E10 := Lib.hid (E9.out.keep (kp_drewN q10) (fun _ _ h => h))
  have D10 := Lib.hid (D9.out.keep (kp_drewN q10) (fun _ _ h => h))
  clear q10
  go_wp2_with fail
  refine (write_at E10.out 0 _ 0 V6.out (by decide) (by omega)).mono ?_
  rintro e w11 ⟨rfl, b6, b7, b8, d11, q11, f11⟩
  have K11 := Lib.hid (E10.out.kpB q11 K10.out (Nat.le_refl _))
  have D11 := Lib.hid (D10.out.keep q11 (fun k h h' => by have := F8.out k h; have := LT.out k h'; omega))
  clear d11 q11 f11
  go_wp2_with fail
  refine (read_any D11.out 0 500).mono ?_
  rintro e w12 ⟨rfl, q12⟩
  have K12 := Lib.hid (K11.out.trans (kp_drewN q12) fun _ h => h.elim)
  have D12 := Lib.hid (D11.out.keep (kp_drewN q12) (fun _ _ h => h))
  clear q12
  go_wp2_with fail
  refine (calls_at D12.out 1 C5.out).mono ?_
  rintro e w' ⟨rfl, rfl⟩
  go_wp2_with fail
  go_ret
  exact ⟨rfl, BW.out.trans (K12.out.belowS.mono BW.out.size)⟩

end Go.Proofs.Yteekoocbdapciaa
