/- Walk: sanity, the examples of the chapter. -/
import Derived.Test.YteekoocbdapciaaE5
namespace Go.Proofs.Yteekoocbdapciaa
open Go.RowKit Go.Lib

def fresh : DS := ⟨[], [], [], 0, 0, 0⟩

theorem new_D (w : World) : Calls Try.prog 14 #[] w fun e w' => e = .returned (.pointer (some ⟨w.heap.size, 0, none⟩)) ∧ DiskP w' w.heap.size w.heap.size (.slice none 0 0) (.slice none 0 0) (.slice none 0 0) fresh ∧ Kp (fun _ => False) w w' := by
  refine (new_any w).mono ?_
  rintro e w' ⟨rfl, rfl⟩
  refine ⟨rfl, ⟨Nat.le_refl _, heap_alloc_new w _, ⟨rfl, .inl ⟨rfl, rfl⟩⟩, ⟨rfl, .inl ⟨rfl, rfl⟩⟩, ⟨rfl, .inl ⟨rfl, rfl⟩⟩, (fun k hk => by cases hk), by simp [fresh], by simp [fresh], (fun p hp => by cases hp)⟩, Kp.alloc _ _ _⟩

theorem Kp.old {F : Nat → Prop} {w w1 w2 : World} (h : Kp (fun _ => False) w w1) (k : Kp F w1 w2) (hF : ∀ k, F k → w.heap.size ≤ k) : Kp (fun _ => False) w w2 := h.trans k fun j hj => .inr (hF j hj)

def T1 : ByteArray := ⟨#[97, 98]⟩
def T2 : ByteArray := ⟨#[120, 121, 122]⟩
def T3 : ByteArray := ⟨#[97]⟩
def D1 : DS := fresh.writeS 2 T1
def D2 : DS := D1.syncS
def D3 : DS := D2.writeS 3 T2
def C1 : DS := D3.crash []
def E1 : DS := fresh.writeS 60 (repB 120 70)
def F1 : DS := E1.crash [0, 1]
def G1 : DS := fresh.fail 1
def G2 : DS := G1.syncS

theorem v1 : fresh.writeC 2 T1 = 0 := by decide +kernel
theorem v2 : D1.now.length = 4 := by decide +kernel
theorem v3 : readL D1.now 0 9 = ⟨#[0, 0, 97, 98]⟩ := by decide +kernel
theorem v4 : D1.syncC = 0 := by decide +kernel
theorem v5 : D2.writeC 3 T2 = 0 := by decide +kernel
theorem v6 : fresh.writeC 60 (repB 120 70) = 0 := by decide +kernel
theorem v7 : G1.syncC = 0 := by decide +kernel
theorem v8 : G2.writeC 0 T3 = 50 := by decide +kernel
theorem v9 : G2.writeC (-1) T3 = 1 := by decide +kernel
theorem v9a : G2.writeS 0 T3 = G2 := by
  unfold DS.writeS
  rw [if_neg (by decide +kernel), if_pos (by decide +kernel)]
theorem v9b : G2.writeS (-1) T3 = G2 := by
  unfold DS.writeS
  rw [if_pos (by decide +kernel)]
theorem v10 : G2.calls = 1 := by decide +kernel
theorem v11 : readL C1.now 0 9 = ⟨#[0, 0, 97, 98]⟩ := by decide +kernel
theorem v12 : F1.now.length = 128 := by decide +kernel
theorem v13 : readL F1.now 60 9 = ⟨#[0, 0, 0, 0, 120, 120, 120, 120, 120]⟩ := by decide +kernel
theorem l1 : D1.later.length ≤ 1000000000 := by decide +kernel
theorem l2 : D2.later.length ≤ 1000000000 := by decide +kernel
theorem l3 : D3.later.length ≤ 1000000000 := by decide +kernel
theorem l4 : E1.later.length ≤ 1000000000 := by decide +kernel
theorem l5 : G2.later.length ≤ 1000000000 := by decide +kernel

/-- write, its answer given. -/
theorem write_at {w : World} {B b : Nat} {vn vs vl : Value} {s : DS} (h : DiskP w B b vn vs vl s) (off : Int) (t : ByteArray) (c : Int) (hc : s.writeC off t = c) (ht : t.size ≤ 140737488355328) (hl : s.later.length ≤ 1000000000) :
    Calls Try.prog 27 #[.pointer (some ⟨b, 0, none⟩), .int .i64 off, .string t] w (DPost B b (foot b vn vs vl) w (.int .i64 c) (s.writeS off t)) := by rw [← hc]; exact write_D h off t ht hl
theorem sync_at {w : World} {B b : Nat} {vn vs vl : Value} {s : DS} (h : DiskP w B b vn vs vl s) (c : Int) (hc : s.syncC = c) :
    Calls Try.prog 28 #[.pointer (some ⟨b, 0, none⟩)] w (DPost B b (foot b vn vs vl) w (.int .i64 c) s.syncS) := by rw [← hc]; exact sync_D h
theorem size_at {w : World} {B b : Nat} {vn vs vl : Value} {s : DS} (h : DiskP w B b vn vs vl s) (c : Nat) (hc : s.now.length = c) :
    Calls Try.prog 17 #[.pointer (some ⟨b, 0, none⟩)] w fun e w' => e = .returned (.int .i64 c) ∧ w = w' := by rw [← hc]; exact size_any h
theorem calls_at {w : World} {B b : Nat} {vn vs vl : Value} {s : DS} (h : DiskP w B b vn vs vl s) (c : Int) (hc : s.calls = c) :
    Calls Try.prog 19 #[.pointer (some ⟨b, 0, none⟩)] w fun e w' => e = .returned (.int .i64 c) ∧ w = w' := by rw [← hc]; exact calls_any h
theorem read_at {w : World} {B b : Nat} {vn vs vl : Value} {s : DS} (h : DiskP w B b vn vs vl s) (off n : Int) (X : ByteArray) (hc : readL s.now off n = X) :
    Calls Try.prog 29 #[.pointer (some ⟨b, 0, none⟩), .int .i64 off, .int .i64 n] w fun e w' => e = .returned (.string X) ∧ ∃ j, w' = w.drewN j := by rw [← hc]; exact read_any h off n

theorem DiskP.kpB {w w' : World} {B b : Nat} {vn vs vl : Value} {s : DS} {W : World} (h : DiskP w B b vn vs vl s) (hk : Kp (foot b vn vs vl) w w') (h0 : Kp (fun _ => False) W w) (hB : W.heap.size ≤ B) : Kp (fun _ => False) W w' :=
  h0.old hk fun k hk => by have := (h.foot_lt hk).1; omega

theorem rep_at (w : World) : Calls Try.prog 26 #[.int .u8 120, .int .i64 70] w fun e w' => e = .returned (.string (repB 120 70)) ∧ Kp (fun _ => False) w w' := by
  have h := repeated_any 120 70 (by decide) w
  exact h

theorem Ints.lit2 (w : World) (a b : Int) : Ints (w.alloc (.cells #[.int .i64 a, .int .i64 b] 3)) (.slice (some ⟨w.heap.size, 0, none⟩) 2 2) [a, b] := by
  refine ⟨some ⟨w.heap.size, 0, none⟩, 2, rfl, fun _ => ⟨w.heap.size, 0, rfl, fun j hj => ?_⟩⟩
  rw [Nat.zero_add, cell_of_row _ _ _ _ _ _ (heap_alloc_new w _)]
  match j, hj with
  | 0, _ => rfl
  | 1, _ => rfl

def SaneP (w : World) (e : Ending) (w' : World) : Prop := e = .returned (.bool true) ∧ Kp (fun _ => False) w w'

set_option maxHeartbeats 2000000 in
theorem sanity_any (w : World) : Calls Try.prog 13 #[] w (SaneP w) := by
  go_enter Try.func13, Try.ntmps13
  go_wp2_with fail
  refine (new_D w).mono ?_
  rintro e w1 ⟨rfl, d1, q1⟩
  have K1 := Lib.hid q1
  clear q1
  go_wp2_with fail
  refine (write_at d1 2 T1 0 v1 (by decide) (by decide)).mono ?_
  rintro e w2 ⟨rfl, a1, a2, a3, d2, q2, f2⟩
  have K2 := Lib.hid (d1.kpB q2 K1.out (Nat.le_refl _))
  clear d1 q2 f2
  go_wp2_with fail
  refine (size_at d2 4 v2).mono ?_
  rintro e w' ⟨rfl, rfl⟩
  go_wp2_with fail
  refine (read_at d2 0 9 _ v3).mono ?_
  rintro e w3 ⟨rfl, q3⟩
  have d3 := d2.keep (kp_drewN q3) (fun _ _ h => h)
  have K3 := Lib.hid (K2.out.trans (kp_drewN q3) fun _ h => h.elim)
  clear d2 q3
  go_wp2_with fail
  refine (sync_at d3 0 v4).mono ?_
  rintro e w4 ⟨rfl, a4, a5, a6, d4, q4, f4⟩
  have K4 := Lib.hid (d3.kpB q4 K3.out (Nat.le_refl _))
  clear d3 q4 f4
  go_wp2_with fail
  refine (write_at d4 3 T2 0 v5 (by decide) l2).mono ?_
  rintro e w5 ⟨rfl, a7, a8, a9, d5, q5, f5⟩
  have K5 := Lib.hid (d4.kpB q5 K4.out (Nat.le_refl _))
  clear d4 q5 f5
  go_wp2_with fail
  refine (crash_any d5 _ [] (Ints.nil _) l3 (by decide)).mono ?_
  rintro e w6 ⟨g, b1, b2, rfl, d6, q6⟩
  have K6 := Lib.hid (K5.out.trans q6 fun _ h => h.elim)
  clear d5 q6
  go_wp2_with fail
  refine (new_D w6).mono ?_
  rintro e w7 ⟨rfl, d7, q7⟩
  have C7 := Lib.hid q7
  have K7 := Lib.hid (K6.out.trans q7 fun _ h => h.elim)
  clear q7
  go_wp2_with fail
  refine (rep_at w7).mono ?_
  rintro e w8 ⟨rfl, q8⟩
  have d8 := d7.keep q8 (fun _ _ h => h)
  have C8 := Lib.hid (C7.out.trans q8 fun _ h => h.elim)
  have K8 := Lib.hid (K7.out.trans q8 fun _ h => h.elim)
  clear d7 q8
  go_wp2_with fail
  refine (write_at d8 60 (repB 120 70) 0 v6 (by decide +kernel) (by decide)).mono ?_
  rintro e w9 ⟨rfl, a1, a2, a3, d9, q9, f9⟩
  have hs6 := K6.out.size
  have C9 := Lib.hid (d8.kpB q9 C8.out (Nat.le_refl _))
  have K9 := Lib.hid (d8.kpB q9 K8.out hs6)
  clear d8 q9 f9
  go_wp2_with fail
  have d10 := d9.keep (Kp.alloc (fun _ => False) w9 (.cells #[.int .i64 0, .int .i64 1] 3)) (fun _ _ h => h)
  refine (crash_any d10 _ [0, 1] (Ints.lit2 w9 0 1) l4 (by decide)).mono ?_
  rintro e w11 ⟨g2, b3, b4, rfl, d11, q11⟩
  have q12 := (Kp.alloc (fun _ => False) w9 (.cells #[.int .i64 0, .int .i64 1] 3)).trans q11 fun _ h => h.elim
  have C11 := Lib.hid (C9.out.trans q12 fun _ h => h.elim)
  have K11 := Lib.hid (K9.out.trans q12 fun _ h => h.elim)
  clear d9 d10 q11 q12
  go_wp2_with fail
  refine (new_D w11).mono ?_
  rintro e w12 ⟨rfl, d12, q12⟩
  have F12 := Lib.hid q12
  have C12 := Lib.hid (C11.out.trans q12 fun _ h => h.elim)
  have K12 := Lib.hid (K11.out.trans q12 fun _ h => h.elim)
  clear q12
  go_wp2_with fail
  refine (fail_D d12 1).mono ?_
  rintro e w13 ⟨rfl, a4, a5, a6, d13, q13, f13⟩
  have hs11 := C11.out.size
  have hk11 := K11.out.size
  have F13 := Lib.hid (d12.kpB q13 F12.out (Nat.le_refl _))
  have C13 := Lib.hid (d12.kpB q13 C12.out hs11)
  have K13 := Lib.hid (d12.kpB q13 K12.out hk11)
  clear d12 q13 f13
  go_wp2_with fail
  refine (sync_at d13 0 v7).mono ?_
  rintro e w14 ⟨rfl, a7, a8, a9, d14, q14, f14⟩
  have F14 := Lib.hid (d13.kpB q14 F13.out (Nat.le_refl _))
  have C14 := Lib.hid (d13.kpB q14 C13.out hs11)
  have K14 := Lib.hid (d13.kpB q14 K13.out hk11)
  clear d13 q14 f14
  go_wp2_with fail
  refine (write_at d14 0 T3 50 v8 (by decide) l5).mono ?_
  rintro e w15 ⟨rfl, e1, e2, e3, d15, q15, f15⟩
  have F15 := Lib.hid (d14.kpB q15 F14.out (Nat.le_refl _))
  have C15 := Lib.hid (d14.kpB q15 C14.out hs11)
  have K15 := Lib.hid (d14.kpB q15 K14.out hk11)
  have d15b : DiskP w15 w11.heap.size w11.heap.size e1 e2 e3 G2 := by rw [← v9a]; exact d15
  clear d14 d15 q15 f15
  go_wp2_with fail
  refine (write_at d15b (-1) T3 1 v9 (by decide) l5).mono ?_
  rintro e w16 ⟨rfl, e4, e5, e6, d16, q16, f16⟩
  have F16 := Lib.hid (d15b.kpB q16 F15.out (Nat.le_refl _))
  have C16 := Lib.hid (d15b.kpB q16 C15.out hs11)
  have K16 := Lib.hid (d15b.kpB q16 K15.out hk11)
  have d16b : DiskP w16 w11.heap.size w11.heap.size e4 e5 e6 G2 := by rw [← v9b]; exact d16
  clear d15b d16 q16 f16
  go_wp2_with fail
  refine (calls_at d16b 1 v10).mono ?_
  rintro e w' ⟨rfl, rfl⟩
  clear d16b
  go_wp2_with fail
  have c17 := d6.keep C16.out (fun _ _ h => h)
  have f17 := d11.keep F16.out (fun _ _ h => h)
  clear d6 d11
  refine (read_at c17 0 9 _ v11).mono ?_
  rintro e w17 ⟨rfl, q17⟩
  have f18 := f17.keep (kp_drewN q17) (fun _ _ h => h)
  have K17 := Lib.hid (K16.out.trans (kp_drewN q17) fun _ h => h.elim)
  clear c17 f17 q17
  go_wp2_with fail
  refine (size_at f18 128 v12).mono ?_
  rintro e w' ⟨rfl, rfl⟩
  go_wp2_with fail
  refine (read_at f18 60 9 _ v13).mono ?_
  rintro e w18 ⟨rfl, q18⟩
  have K18 := Lib.hid (K17.out.trans (kp_drewN q18) fun _ h => h.elim)
  clear f18 q18
  go_wp2_with fail
  go_ret
  exact ⟨rfl, K18.out⟩

end Go.Proofs.Yteekoocbdapciaa
