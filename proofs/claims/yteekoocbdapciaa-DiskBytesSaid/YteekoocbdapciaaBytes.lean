/- Walk: the law DiskBytes, with the plain law on what a byte is after a crash. -/
import Derived.Test.YteekoocbdapciaaOwn
namespace Go.Proofs.Yteekoocbdapciaa
open Go.RowKit Go.Lib

/-- A byte after writes of one letter x within a range, over contents a. -/
def ByteOk (a : List UInt8) (off m : Nat) (x : UInt8) (c : List UInt8) : Prop :=
  a.length ≤ c.length ∧ c.length ≤ max a.length (off + m) ∧ ∀ i (h : i < c.length), (∃ h2 : i < a.length, c[i] = a[i]) ∨ (off ≤ i ∧ i < off + m ∧ c[i] = x) ∨ (a.length ≤ i ∧ c[i] = 0)

theorem putL_get (c : List UInt8) (p : Nat) (t : List UInt8) (i : Nat) (h : i < (putL c p t).length) :
    (∃ h2 : i - p < t.length, p ≤ i ∧ (putL c p t)[i] = t[i - p]) ∨ (∃ h2 : i < c.length, (putL c p t)[i] = c[i]) ∨ (c.length ≤ i ∧ (putL c p t)[i] = 0) := by
  have hl := putL_length c p t
  have hL : (c ++ List.replicate (p + t.length - c.length) (0 : UInt8)).length = max c.length (p + t.length) := by simp; omega
  have hpl : p ≤ (c ++ List.replicate (p + t.length - c.length) (0 : UInt8)).length := by rw [hL]; omega
  have base : ∀ j (hj : j < (c ++ List.replicate (p + t.length - c.length) (0 : UInt8)).length), (∃ h2 : j < c.length, (c ++ List.replicate (p + t.length - c.length) (0 : UInt8))[j] = c[j]) ∨ (c.length ≤ j ∧ (c ++ List.replicate (p + t.length - c.length) (0 : UInt8))[j] = 0) := by
    intro j hj
    by_cases h2 : j < c.length
    · exact .inl ⟨h2, List.getElem_append_left h2⟩
    · refine .inr ⟨by omega, ?_⟩
      rw [List.getElem_append_right (by omega)]
      simp
  by_cases h1 : i < p
  · have hb := base i (by omega)
    have e : (putL c p t)[i] = (c ++ List.replicate (p + t.length - c.length) (0 : UInt8))[i]'(by omega) := by
      simp only [putL, splice]
      rw [List.getElem_append_left (by simp; omega), List.getElem_take]
    rw [e]
    exact .inr hb
  · by_cases h2 : i < p + t.length
    · refine .inl ⟨by omega, by omega, ?_⟩
      simp only [putL, splice]
      rw [List.getElem_append_right (by simp; omega), List.getElem_append_left (by simp; omega)]
      congr 1
      simp
      omega
    · have hb := base i (by omega)
      have e : (putL c p t)[i] = (c ++ List.replicate (p + t.length - c.length) (0 : UInt8))[i]'(by omega) := by
        simp only [putL, splice]
        rw [List.getElem_append_right (by simp; omega), List.getElem_append_right (by simp; omega), List.getElem_drop]
        congr 1
        simp
        omega
      rw [e]
      exact .inr hb

theorem ByteOk.put {a : List UInt8} {off m : Nat} {x : UInt8} {c : List UInt8} (h : ByteOk a off m x c) (p : Nat) (t : List UInt8) (hp : off ≤ p) (hm : p + t.length ≤ off + m) (hx : ∀ y ∈ t, y = x) : ByteOk a off m x (putL c p t) := by
  obtain ⟨h1, h2, h3⟩ := h
  have hl := putL_length c p t
  refine ⟨by omega, by omega, fun i hi => ?_⟩
  rcases putL_get c p t i hi with ⟨g1, g2, g3⟩ | ⟨g1, g2⟩ | ⟨g1, g2⟩
  · exact .inr (.inl ⟨by omega, by omega, by rw [g3]; exact hx _ (List.getElem_mem _)⟩)
  · rw [g2]; exact h3 i g1
  · exact .inr (.inr ⟨by omega, g2⟩)

theorem ByteOk.crash {a : List UInt8} {off m : Nat} {x : UInt8} (q : List Int) : ∀ (l : List (Nat × ByteArray)) (k : Nat) (c : List UInt8), (∀ p ∈ l, off ≤ p.1 ∧ p.1 + p.2.size ≤ off + m ∧ ∀ y ∈ p.2.data.toList, y = x) → ByteOk a off m x c → ByteOk a off m x (crashF q k l c) := by
  intro l
  induction l with
  | nil => intro k c _ h; exact h
  | cons p l ih =>
    intro k c hp hc
    rw [crashF]
    refine ih _ _ (fun p' hp' => hp p' (by simp [hp'])) ?_
    obtain ⟨g1, g2, g3⟩ := hp p (by simp)
    cases oddB q k
    · exact hc
    · exact hc.put _ _ g1 (by rw [← size_eq]; exact g2) g3

theorem ByteOk.start (a : List UInt8) (off m : Nat) (x : UInt8) : ByteOk a off m x a := ⟨Nat.le_refl _, by omega, fun i hi => .inl ⟨hi, rfl⟩⟩

theorem partsF_all {x : UInt8} : ∀ (k off : Nat) (s : ByteArray), (∀ y ∈ s.data.toList, y = x) → ∀ p ∈ partsF k off s, off ≤ p.1 ∧ p.1 + p.2.size ≤ off + s.size ∧ ∀ y ∈ p.2.data.toList, y = x := by
  intro k
  induction k with
  | zero => intro off s _ p hp; cases hp
  | succ k ih =>
    intro off s hs p hp
    rw [partsF] at hp
    split at hp
    · cases hp
    · rcases List.mem_cons.1 hp with rfl | hp
      · refine ⟨Nat.le_refl _, by simp [ByteArray.size_extract]; omega, fun y hy => ?_⟩
        rw [ba_extract] at hy
        exact hs y (List.mem_of_mem_drop (List.mem_of_mem_take hy))
      · have hs2 : ∀ y ∈ (s.extract (min (64 - off % 64) s.size) s.size).data.toList, y = x := fun y hy => by
          rw [ba_extract] at hy
          exact hs y (List.mem_of_mem_drop (List.mem_of_mem_take hy))
        obtain ⟨g1, g2, g3⟩ := ih _ _ hs2 p hp
        have es : (s.extract (min (64 - off % 64) s.size) s.size).size = s.size - min (64 - off % 64) s.size := by simp [ByteArray.size_extract]
        exact ⟨by omega, by omega, g3⟩

theorem putL_nil (l : List UInt8) : putL [] 0 l = l := by
  simp [putL, splice]

theorem repB_all (c : UInt8) (n : Nat) : ∀ y ∈ (repB c n).data.toList, y = c := by
  intro y hy
  simp [repB] at hy
  exact hy.2

/-- The state behind the two Writes, the Sync and the crash. -/
theorem bytes_ok (a : ByteArray) (ha : a.size ≤ 200) (K n : Nat) (hK : K < 250) (hn : n ≤ 200) (q : List Int) :
    ByteOk a.data.toList K n 238 ((((fresh.writeS 0 a).syncS).writeS (K : Int) (repB 238 n)).crash q).now := by
  have p1 : (fresh.writeS 0 a).power = 0 := by rw [writeS_power]; rfl
  have p2 : (fresh.writeS 0 a).syncS.power = 0 := by rw [syncS_power]; exact p1
  have hz : (repB 238 n).size = n := repB_size _ _
  rw [writeS_ok p2 (by omega) (by omega), syncS_ok p1, writeS_ok rfl (by decide) (by omega)]
  show ByteOk a.data.toList K n 238 (crashF q 0 ([] ++ partsF (repB 238 n).size (K : Int).toNat (repB 238 n)) (putL [] (0 : Int).toNat a.data.toList))
  have e : putL [] (0 : Int).toNat a.data.toList = a.data.toList := putL_nil _
  rw [e, List.nil_append, Int.toNat_natCast]
  refine ByteOk.crash q _ 0 _ (fun p hp => ?_) (ByteOk.start _ _ _ _)
  have h := partsF_all (x := 238) (repB 238 n).size K (repB 238 n) (repB_all _ _) p hp
  rw [hz] at h
  exact h

theorem wpList_max {P : Program} {w : World} {ops : Array Oper} {rest : List Oper} {o : Oper} {a : Act} {Q : Exit → Act → World → Prop} (hgd : o.guard = none) (x y : Operand) (ts : Array TypeId)
    (ho : o.op = .call { callee := .builtin .max, args := #[x, y], argTypes := ts }) (k : IntKind) (p q r : Int) (hx : a.eval x = .int k p) (hy : a.eval y = .int k q) (hr : r = max p q)
    (h : wpList P ops Q rest (a.put o.dst (.int k r)) w) : wpList P ops Q (o :: rest) a w := by
  refine wpList_plain hgd fun K hK => ?_
  have hrun := run_max_int2 (P := P) w ts o.type k k p q
  have e : (if q > p then q else p) = r := by rw [hr]; split <;> omega
  rw [e] at hrun
  unfold Oper.wp
  simp [execOp, ho, resolve, invoke, builtin, hx, hy, hrun, Result.andThen]
  exact hK _ _ h

theorem bytes_case {a got : ByteArray} {K n : Nat} {l : List UInt8} (h : ByteOk a.data.toList K n 238 l) (hg : got = ⟨l.toArray⟩) (k : Nat) (hk : k < got.size) :
    (∃ h2 : k < a.size, (got[k].toNat : Int) = (a[k].toNat : Int)) ∨ (K ≤ k ∧ k < K + n ∧ (got[k].toNat : Int) = 238) ∨ (a.size ≤ k ∧ (got[k].toNat : Int) = 0) := by
  subst hg
  have hk2 : k < l.length := by simpa [ByteArray.size] using hk
  have e : (⟨l.toArray⟩ : ByteArray)[k] = l[k] := rfl
  rcases h.2.2 k hk2 with ⟨h2, h3⟩ | ⟨h2, h3, h4⟩ | ⟨h2, h3⟩
  · exact .inl ⟨h2, by rw [e, h3]; rfl⟩
  · exact .inr (.inl ⟨h2, h3, by rw [e, h4]; rfl⟩)
  · exact .inr (.inr ⟨h2, by rw [e, h3]; rfl⟩)

def BRel (w8 : World) (N : Nat) (i : Value) (wr : World) : Prop := ∃ k j : Nat, i = .int .i64 (k : Nat) ∧ k ≤ N ∧ wr = w8.drewN j

set_option maxRecDepth 100000 in
set_option maxHeartbeats 4000000 in
theorem bytes_walk (W : World) (s : ByteArray) (t0 t1 : Int) (v : Value) (q : List Int) (hs : s.size ≤ 9223372036854775807) (hq : Ints W v q) (hql : q.length ≤ 9223372036854775807) :
    Calls Try.prog 5 #[.string s, .agg #[.int .i64 t0, .int .i64 t1], v] W fun e w' => e = .returned (.bool true) ∧ Below W.heap.size W w' := by
  obtain ⟨m, hm⟩ : ∃ m : Nat, m = min s.size 200 := ⟨_, rfl⟩
  have hm1 : m ≤ s.size := by omega
  have hm2 : m ≤ 200 := by omega
  obtain ⟨a, ha⟩ : ∃ a, a = s.extract 0 m := ⟨_, rfl⟩
  have has : a.size ≤ 200 := by
    rw [ha, ByteArray.size_extract]
    omega
  obtain ⟨K, hK⟩ : ∃ k : Nat, t0 % 250 = (k : Int) := ⟨(t0 % 250).toNat, by omega⟩
  obtain ⟨M, hM⟩ : ∃ k : Nat, t1 % 200 = (k : Int) := ⟨(t1 % 200).toNat, by omega⟩
  have l0 : K < 250 := by omega
  have l1 : M < 200 := by omega
  have l0i : (K : Int) < 250 := by omega
  have l1i : (M : Int) < 200 := by omega
  have HK0 := Lib.hid hK
  have HK1 := Lib.hid hM
  have HM := Lib.hid hm
  have HA := Lib.hid ha.symm
  have HQ := Lib.hid hq
  clear hK hM hm ha hq
  obtain ⟨b, hb⟩ : ∃ b, b = repB 238 (1 + M) := ⟨_, rfl⟩
  have hbz : b.size = 1 + M := by rw [hb]; exact repB_size _ _
  obtain ⟨s1, hs1⟩ : ∃ s1, s1 = fresh.writeS 0 a := ⟨_, rfl⟩
  obtain ⟨s2, hs2⟩ : ∃ s2, s2 = s1.syncS := ⟨_, rfl⟩
  obtain ⟨s3, hs3⟩ : ∃ s3, s3 = s2.writeS (K : Int) b := ⟨_, rfl⟩
  obtain ⟨s4, hs4⟩ : ∃ s4, s4 = s3.crash q := ⟨_, rfl⟩
  have p1 : s1.power = 0 := by rw [hs1, writeS_power]; rfl
  have p2 : s2.power = 0 := by rw [hs2, syncS_power]; exact p1
  have n1 : s1.later.length ≤ 200 := by rw [hs1]; have := writeS_len fresh 0 a; simp [fresh] at this ⊢; omega
  have n2 : s2.later.length ≤ 200 := by rw [hs2, syncS_ok p1]; simp [DS.sync]
  have n3 : s3.later.length ≤ 500 := by
    rw [hs3]
    have := writeS_len s2 (K : Int) b
    omega
  have v1 : fresh.writeC 0 a = 0 := writeC_ok rfl (by decide) (by omega)
  have v2 : s1.syncC = 0 := syncC_ok p1
  have v3 : s2.writeC (K : Int) b = 0 := writeC_ok p2 (by omega) (by omega)
  have OK := Lib.hid (bytes_ok a has K (1 + M) l0 (by omega) q)
  rw [← hb, ← hs1, ← hs2, ← hs3, ← hs4] at OK
  obtain ⟨N, hN⟩ : ∃ N, s4.now.length = N := ⟨_, rfl⟩
  obtain ⟨got, hgot⟩ : ∃ got : ByteArray, got = ⟨s4.now.toArray⟩ := ⟨_, rfl⟩
  have hgz : got.size = N := by rw [hgot, ← hN]; simp [ByteArray.size]
  have hr : readL s4.now 0 (N : Int) = got := by rw [← hN, hgot]; exact readL_all _
  have b1 : a.size ≤ N := by have := OK.out.1; rw [hN, ← size_eq] at this; exact this
  have b2 : N ≤ max a.size (K + (1 + M)) := by have := OK.out.2.1; rw [hN, ← size_eq] at this; exact this
  have V1 := Lib.hid v1
  have V2 := Lib.hid v2
  have V3 := Lib.hid v3
  have S1 := Lib.hid hs1.symm
  have S2 := Lib.hid hs2.symm
  have S3 := Lib.hid hs3.symm
  have S4 := Lib.hid hs4.symm
  have HB := Lib.hid hb.symm
  have HBZ := Lib.hid hbz
  have HN := Lib.hid hN
  have HGZ := Lib.hid hgz
  have HR := Lib.hid hr
  have HG := Lib.hid hgot
  clear v1 v2 v3 hs1 hs2 hs3 hs4 p1 p2 hb hbz hN hgz hr hgot
  obtain ⟨mx, hmx⟩ : ∃ mx : Int, (if (a.size : Int) < (K : Int) + (1 + (M : Int)) then (K : Int) + (1 + (M : Int)) else (a.size : Int)) = mx := ⟨_, rfl⟩
  have hNm : (N : Int) ≤ mx := by rw [← hmx]; split <;> omega
  have HMX := Lib.hid hmx
  clear hmx
  go_enter Try.func5, Try.ntmps5
  go_wp2_with fail
  obtain ⟨w0, hw0⟩ : ∃ w0, w0 = W.alloc (.cells #[.int .i64 t0, .int .i64 t1] 42) := ⟨_, rfl⟩
  have QB : Hid (w0.heap[W.heap.size]? = some (.cells #[.int .i64 t0, .int .i64 t1] 42 (0, 0))) := by rw [hw0]; exact heap_alloc_new W _
  have BW : Hid (Below W.heap.size W w0) := by rw [hw0]; exact (Kp.alloc (fun _ => False) W _).belowS
  rw [← hw0]
  clear hw0
  refine (sanity_any _).mono ?_
  rintro e w1 ⟨rfl, q1⟩
  have K1 := Lib.hid q1
  clear q1
  go_wp2_with fail
  refine (new_D w1).mono ?_
  rintro e w2 ⟨rfl, d2, q2⟩
  have K2 := Lib.hid (K1.out.trans q2 fun _ h => h.elim)
  have D2 := Lib.hid (d2.down K1.out.size)
  clear q2 d2
  obtain ⟨c0, c1⟩ := pair_cells QB.out K2.out
  go_wp2_with (refine wpList_min rfl (.tmp 27) (.const (.int .i64 200)) #[3, 3] rfl .i64 _ _ (m : Int) rfl rfl (by have := HM.out; omega) ?_)
  rw [HA.out]
  refine (mod_any t0 250 _ (by omega) (by omega)).mono ?_
  rintro e w' ⟨rfl, rfl⟩
  rw [HK0.out]
  go_wp2_with fail
  refine (mod_any t1 200 _ (by omega) (by omega)).mono ?_
  rintro e w' ⟨rfl, rfl⟩
  rw [HK1.out]
  go_wp2_with fail
  refine (repS 238 (1 + M) _ (by omega) (by omega) _ 238 rfl).mono ?_
  rintro e w3 ⟨rfl, q3⟩
  rw [HB.out]
  have K3 := Lib.hid (K2.out.trans q3 fun _ h => h.elim)
  have D3 := Lib.hid (D2.out.keep q3 (fun _ _ h => h))
  clear q3 c0 c1
  go_wp2_with fail
  refine (write_at D3.out 0 a 0 V1.out (by omega) (by simp [fresh])).mono ?_
  rintro e w4 ⟨rfl, a1, a2, a3, d4, q4, f4⟩
  rw [S1.out] at d4
  have K4 := Lib.hid (D3.out.kpB q4 K3.out (Nat.le_refl _))
  have D4 := Lib.hid d4
  clear d4 q4 f4
  go_wp2_with fail
  refine (sync_at D4.out 0 V2.out).mono ?_
  rintro e w5 ⟨rfl, a4, a5, a6, d5, q5, f5⟩
  rw [S2.out] at d5
  have K5 := Lib.hid (D4.out.kpB q5 K4.out (Nat.le_refl _))
  have D5 := Lib.hid d5
  clear d5 q5 f5
  go_wp2_with fail
  refine (write_at D5.out (K : Int) b 0 V3.out (by have := HBZ.out; omega) (by omega)).mono ?_
  rintro e w6 ⟨rfl, a7, a8, a9, d6, q6, f6⟩
  rw [S3.out] at d6
  have K6 := Lib.hid (D5.out.kpB q6 K5.out (Nat.le_refl _))
  have D6 := Lib.hid d6
  clear d6 q6 f6
  go_wp2_with fail
  refine (crash_any D6.out v q (HQ.out.below (BW.out.trans (K6.out.belowS.mono BW.out.size))) (by omega) hql).mono ?_
  rintro e w7 ⟨g, b3, b4, rfl, d7, q7⟩
  rw [S4.out] at d7
  have K7 := Lib.hid (K6.out.trans q7 fun _ h => h.elim)
  have D7 := Lib.hid d7
  clear d7 q7
  have g1 : ¬ N < a.size := by omega
  go_wp2_with fail
  refine (size_at D7.out N HN.out).mono ?_
  rintro e w' ⟨rfl, rfl⟩
  have hbz := HBZ.out
  have hmx := HMX.out
  go_wp2_with fail
  refine (size_at D7.out N HN.out).mono ?_
  rintro e w' ⟨rfl, rfl⟩
  go_wp2_with fail
  refine (size_at D7.out N HN.out).mono ?_
  rintro e w' ⟨rfl, rfl⟩
  clear hbz hmx
  have bz1 : b.size ≤ 1 + M := by have := HBZ.out; omega
  have bz2 : 1 + M ≤ b.size := by have := HBZ.out; omega
  have bz3 : (b.size : Int) ≤ 200 := by omega
  go_wp2_with fail
  refine (read_at D7.out 0 N got HR.out).mono ?_
  rintro e w8 ⟨rfl, q8⟩
  have K8 := Lib.hid (K7.out.trans (kp_drewN q8) fun _ h => h.elim)
  have D8 := Lib.hid (D7.out.keep (kp_drewN q8) (fun _ _ h => h))
  clear q8
  have hgz := HGZ.out
  go_wp2_with fail
  refine (size_at D8.out N HN.out).mono ?_
  rintro e w' ⟨rfl, rfl⟩
  go_wp2_with fail
  go_loopw [17] (fun i wr => BRel w8 N i wr) (fun i _ => N - (intOf i).toNat)
  case atStart => exact ⟨0, 0, rfl, by omega, rfl⟩
  case round =>
    obtain ⟨k, j, rfl, hk, rfl⟩ := hrel
    by_cases h1 : k < N
    · have h2 : k < got.size := by omega
      have HO := Lib.hid (bytes_case OK.out HG.out k h2)
      by_cases h3 : k < a.size
      · go_wp2_with fail
        go_quiet (fail)
        go_wp2_with fail
        all_goals first
          | (go_roundw
             case rel => exact ⟨k + 1, _, by simp, by omega, rfl⟩
             case measure => simp [intOf]; omega)
          | (exfalso
             have ho := HO.out
             rcases ho with ⟨_, ho⟩ | ho | ho
             all_goals
               simp only [Bool.not_eq_true', beq_eq_false_iff_ne, ne_eq] at *
               omega)
      · have h4 : decide (k < a.size) = false := by simp; omega
        go_wp2_with fail
        go_quiet (fail)
        go_wp2_with fail
        all_goals first
          | (go_roundw
             case rel => exact ⟨k + 1, _, by simp, by omega, rfl⟩
             case measure => simp [intOf]; omega)
          | (exfalso
             have ho := HO.out
             rcases ho with ⟨_, ho⟩ | ho | ho
             all_goals
               simp only [Bool.not_eq_true', beq_eq_false_iff_ne, ne_eq] at *
               omega)
    · go_wp2_with fail
      go_ret
      exact ⟨rfl, BW.out.trans ((K8.out.trans (Kp.drewN (fun _ => False) _ _) fun _ h => h.elim).belowS.mono BW.out.size)⟩

end Go.Proofs.Yteekoocbdapciaa
