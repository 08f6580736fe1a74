/- Walk: the law DiskFails. -/
import Derived.Test.YteekoocbdapciaaC1
namespace Go.Proofs.Yteekoocbdapciaa
open Go.RowKit Go.Lib

/-- After k calls of at most 'many' that succeed. -/
structure FailS (s : DS) (many k : Nat) : Prop where
  pow : s.power = 1
  left : s.left = ((many - k : Nat) : Int)
  calls : s.calls = ((min k many : Nat) : Int)
  now : s.now.length ≤ min k many
  later : s.later.length ≤ k

theorem FailS.off {s : DS} {many k : Nat} (h : FailS s many k) : s.off = decide (many ≤ k) := by
  rw [DS.off, h.pow, h.left, Bool.eq_iff_iff]
  simp
  omega

theorem FailS.tick {s : DS} {many k : Nat} (h : FailS s many k) (hk : k < many) (hm : many < 100) : s.tick.power = 1 ∧ s.tick.left = ((many - (k + 1) : Nat) : Int) ∧ s.tick.calls = ((min (k + 1) many : Nat) : Int) := by
  refine ⟨h.pow, ?_, ?_⟩
  · simp only [DS.tick, h.pow, if_true, h.left]
    unfold wrap64
    omega
  · simp only [DS.tick, h.calls]
    unfold wrap64
    omega

theorem FailS.sync {s : DS} {many k : Nat} (h : FailS s many k) (hm : many < 100) : FailS s.syncS many (k + 1) ∧ s.syncC = if many ≤ k then 50 else 0 := by
  have ho := h.off
  by_cases hk : many ≤ k
  · have ho2 : s.off = true := by rw [ho]; simpa using hk
    refine ⟨?_, by simp [DS.syncC, ho2, hk]⟩
    rw [DS.syncS, if_pos ho2]
    exact ⟨h.pow, by rw [h.left]; omega, by rw [h.calls]; omega, by have := h.now; omega, by have := h.later; omega⟩
  · have ho2 : s.off = false := by rw [ho]; simpa using hk
    obtain ⟨t1, t2, t3⟩ := h.tick (by omega) hm
    refine ⟨?_, by simp [DS.syncC, ho2, hk]⟩
    rw [DS.syncS, ho2]
    exact ⟨t1, t2, t3, by have := h.now; show s.now.length ≤ _; omega, by simp [DS.sync]⟩

theorem FailS.write {s : DS} {many k : Nat} (h : FailS s many k) (hm : many < 100) (hk100 : k < 100) (t : ByteArray) (ht : t.size = 1) : FailS (s.writeS k t) many (k + 1) ∧ s.writeC k t = if many ≤ k then 50 else 0 := by
  have ho := h.off
  have hb : badW (k : Int) t = false := by simp [badW]; omega
  by_cases hk : many ≤ k
  · have ho2 : s.off = true := by rw [ho]; simpa using hk
    refine ⟨?_, by simp [DS.writeC, hb, ho2, hk]⟩
    rw [DS.writeS, hb, if_neg (by simp), if_pos ho2]
    exact ⟨h.pow, by rw [h.left]; omega, by rw [h.calls]; omega, by have := h.now; omega, by have := h.later; omega⟩
  · have ho2 : s.off = false := by rw [ho]; simpa using hk
    obtain ⟨t1, t2, t3⟩ := h.tick (by omega) hm
    refine ⟨?_, by simp [DS.writeC, hb, ho2, hk]⟩
    rw [DS.writeS, hb, if_neg (by simp), ho2]
    refine ⟨t1, t2, t3, ?_, ?_⟩
    · show (putL s.now (k : Int).toNat t.data.toList).length ≤ _
      rw [putL_length, ← size_eq, ht]
      have := h.now
      omega
    · show (s.later ++ partsF t.size _ t).length ≤ _
      have := partsF_len t.size (k : Int).toNat t
      have := h.later
      rw [List.length_append]
      omega

theorem FailS.start (many : Nat) : FailS (fresh.fail many) many 0 := by
  refine ⟨?_, ?_, ?_, ?_, ?_⟩ <;> simp [fresh, DS.fail]

def FRel (W : World) (b many M : Nat) (i : Value) (wr : World) : Prop :=
  ∃ (k : Nat) (s : DS) (vn vs vl : Value), i = .int .i64 (k : Nat) ∧ k ≤ M ∧ FailS s many k ∧ DiskP wr W.heap.size b vn vs vl s ∧ Kp (fun _ => False) W wr

set_option maxHeartbeats 4000000 in
theorem fails_walk (W : World) (n bits more : Int) (hn : 0 ≤ n ∧ n ≤ 255) (hb : 0 ≤ bits ∧ bits ≤ 4294967295) (hm : 0 ≤ more ∧ more ≤ 255) :
    Calls Try.prog 7 #[.int .u8 n, .int .u32 bits, .int .u8 more] W fun e w' => e = .returned (.bool true) ∧ Below W.heap.size W w' := by
  obtain ⟨hn0, hn1⟩ := hn
  obtain ⟨hb0, hb1⟩ := hb
  obtain ⟨hm0, hm1⟩ := hm
  obtain ⟨N, hN⟩ : ∃ N : Nat, n % 30 = (N : Int) := ⟨(n % 30).toNat, by omega⟩
  obtain ⟨M, hM⟩ : ∃ M : Nat, more % 5 = (M : Int) := ⟨(more % 5).toNat, by omega⟩
  have l1 : N ≤ 29 := by omega
  have l2 : M ≤ 4 := by omega
  have l3 : (N : Int) ≤ 29 := by omega
  have l4 : (M : Int) ≤ 4 := by omega
  go_enter Try.func7, Try.ntmps7
  go_wp2_with fail
  refine (sanity_any _).mono ?_
  rintro e w1 ⟨rfl, q1⟩
  have K1 := Lib.hid q1
  clear q1
  go_wp2_with fail
  refine (new_D w1).mono ?_
  rintro e w2 ⟨rfl, d2, q2⟩
  have K2 := Lib.hid (K1.out.trans q2 fun _ h => h.elim)
  have D2 := Lib.hid (d2.down K1.out.size)
  clear q2 d2
  go_wp2_with fail
  refine (fail_D D2.out (N : Int)).mono ?_
  rintro e w3 ⟨rfl, vn3, vs3, vl3, d3, q3, f3⟩
  have K3 := Lib.hid (D2.out.kpB q3 K2.out (Nat.le_refl _))
  have D3 := Lib.hid d3
  clear d3 q3 f3
  go_wp2_with fail
  go_loopw [10] (fun i wr => FRel W w1.heap.size N (N + M + 1) i wr) (fun i _ => N + M + 1 - (intOf i).toNat)
  case atStart => exact ⟨0, _, _, _, _, rfl, by omega, FailS.start N, D3.out, K3.out⟩
  case round =>
    obtain ⟨k, s, vn, vs, vl, rfl, hk, hF, hD, hK⟩ := hrel
    have HF := Lib.hid hF
    have HD := Lib.hid hD
    have HK := Lib.hid hK
    have l5 : k ≤ 34 := by omega
    have l6 : s.later.length ≤ 100 := by have := hF.later; omega
    clear hF hD hK
    by_cases h1 : k < N + M + 1
    · have h1i : (k : Int) < (N : Int) + (M : Int) + 1 := by omega
      obtain ⟨c, hc⟩ : ∃ c : Int, c = if N ≤ k then 50 else 0 := ⟨_, rfl⟩
      have VS := Lib.hid ((HF.out.sync (by omega)).2.trans hc.symm)
      have FS := Lib.hid (HF.out.sync (by omega)).1
      have VW := Lib.hid ((HF.out.write (by omega) (by omega) ⟨#[122]⟩ rfl).2.trans hc.symm)
      have FW := Lib.hid (HF.out.write (by omega) (by omega) ⟨#[122]⟩ rfl).1
      clear HF
      by_cases h3 : N ≤ k
      · obtain rfl : c = 50 := by rw [hc, if_pos h3]
        clear hc
        go_wp2_with fail
        · refine (sync_at HD.out 50 VS.out).mono ?_
          rintro e w5 ⟨rfl, a1, a2, a3, d5, q5, f5⟩
          have K5 := Lib.hid (HD.out.kpB q5 HK.out (Nat.le_refl _))
          have D5 := Lib.hid d5
          clear d5 q5 f5
          go_wp2_with fail
          go_roundw
          case rel => exact ⟨k + 1, _, _, _, _, by simp, by omega, FS.out, D5.out, K5.out⟩
          case measure => simp [intOf]; omega
        · refine (write_at HD.out (k : Int) ⟨#[122]⟩ 50 VW.out (by decide) (by omega)).mono ?_
          rintro e w5 ⟨rfl, a1, a2, a3, d5, q5, f5⟩
          have K5 := Lib.hid (HD.out.kpB q5 HK.out (Nat.le_refl _))
          have D5 := Lib.hid d5
          clear d5 q5 f5
          go_wp2_with fail
          go_roundw
          case rel => exact ⟨k + 1, _, _, _, _, by simp, by omega, FW.out, D5.out, K5.out⟩
          case measure => simp [intOf]; omega
      · obtain rfl : c = 0 := by rw [hc, if_neg h3]
        clear hc
        go_wp2_with fail
        · refine (sync_at HD.out 0 VS.out).mono ?_
          rintro e w5 ⟨rfl, a1, a2, a3, d5, q5, f5⟩
          have K5 := Lib.hid (HD.out.kpB q5 HK.out (Nat.le_refl _))
          have D5 := Lib.hid d5
          clear d5 q5 f5
          go_wp2_with fail
          go_roundw
          case rel => exact ⟨k + 1, _, _, _, _, by simp, by omega, FS.out, D5.out, K5.out⟩
          case measure => simp [intOf]; omega
        · refine (write_at HD.out (k : Int) ⟨#[122]⟩ 0 VW.out (by decide) (by omega)).mono ?_
          rintro e w5 ⟨rfl, a1, a2, a3, d5, q5, f5⟩
          have K5 := Lib.hid (HD.out.kpB q5 HK.out (Nat.le_refl _))
          have D5 := Lib.hid d5
          clear d5 q5 f5
          go_wp2_with fail
          go_roundw
          case rel => exact ⟨k + 1, _, _, _, _, by simp, by omega, FW.out, D5.out, K5.out⟩
          case measure => simp [intOf]; omega
    · obtain ⟨C, hC⟩ : ∃ C : Nat, s.now.length = C := ⟨_, rfl⟩
      have hcn : s.calls = (N : Int) := by rw [HF.out.calls]; omega
      have l7 : C ≤ N := by have := HF.out.now; omega
      have CN := Lib.hid hcn
      have HC := Lib.hid hC
      have p9 : (s.fail (-1)).power = 0 := by simp [DS.fail]
      have V9 := Lib.hid (writeC_ok (off := 0) (t := ⟨#[97, 103, 97, 105, 110]⟩) p9 (by decide) (by decide +kernel))
      have c9 : ((s.fail (-1)).writeS 0 ⟨#[97, 103, 97, 105, 110]⟩).calls = (N : Int) + 1 := by
        rw [writeS_ok p9 (by decide) (by decide +kernel)]
        show wrap64 (s.calls + 1) = _
        rw [hcn]
        unfold wrap64
        omega
      have C9 := Lib.hid c9
      have h1i : ¬ (k : Int) < (N : Int) + (M : Int) + 1 := by omega
      clear hC hcn p9 c9
      go_wp2_with fail
      refine (calls_at HD.out N CN.out).mono ?_
      rintro e w' ⟨rfl, rfl⟩
      go_wp2_with fail
      refine (size_at HD.out C HC.out).mono ?_
      rintro e w' ⟨rfl, rfl⟩
      go_wp2_with fail
      refine (fail_D HD.out (-1)).mono ?_
      rintro e w5 ⟨rfl, a1, a2, a3, d5, q5, f5⟩
      have K5 := Lib.hid (HD.out.kpB q5 HK.out (Nat.le_refl _))
      have D5 := Lib.hid d5
      clear d5 q5 f5
      go_wp2_with fail
      refine (write_at D5.out 0 _ 0 V9.out (by decide +kernel) (by simp [DS.fail]; omega)).mono ?_
      rintro e w6 ⟨rfl, a4, a5, a6, d6, q6, f6⟩
      have K6 := Lib.hid (D5.out.kpB q6 K5.out (Nat.le_refl _))
      have D6 := Lib.hid d6
      clear d6 q6 f6
      go_wp2_with fail
      refine (calls_at D6.out _ C9.out).mono ?_
      rintro e w' ⟨rfl, rfl⟩
      go_wp2_with fail
      go_ret
      exact ⟨by simp, K6.out.belowS⟩

theorem wf_u8 {n : Int} (h : (Lit.int .u8 n).wf = true) : 0 ≤ n ∧ n ≤ 255 := by
  simpa [Lit.wf, IntKind.min, IntKind.max, IntKind.signed, IntKind.bits] using h
theorem wf_u32 {n : Int} (h : (Lit.int .u32 n).wf = true) : 0 ≤ n ∧ n ≤ 4294967295 := by
  simpa [Lit.wf, IntKind.min, IntKind.max, IntKind.signed, IntKind.bits] using h

end Go.Proofs.Yteekoocbdapciaa
