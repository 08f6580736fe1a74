/- Walk: the law DiskNil. -/
import Derived.Test.YteekoocbdapciaaC1
namespace Go.Proofs.Yteekoocbdapciaa
open Go.RowKit Go.Lib

set_option maxHeartbeats 400000 in
theorem crash_nil (w : World) (v : Value) : Calls Try.prog 23 #[.pointer none, v] w fun e w' => e = .returned (.pointer (some ⟨w.heap.size, 0, none⟩)) ∧ DiskP w' w.heap.size w.heap.size (.slice none 0 0) (.slice none 0 0) (.slice none 0 0) fresh ∧ Kp (fun _ => False) w w' := by
  go_enter Try.func23, Try.ntmps23
  go_wp2_with fail
  refine (new_D w).mono ?_
  rintro e w1 ⟨rfl, d1, q1⟩
  have D1 := Lib.hid d1
  have Q1 := Lib.hid q1
  clear d1 q1
  go_wp2_with fail
  go_ret
  exact ⟨rfl, D1.out, Q1.out⟩

theorem kp_above {N : Nat} {w w' : World} (h : Below N w w') : Kp (fun k => N ≤ k) w w' := ⟨h.os, h.tape, h.output, h.size, fun k _ hf => h.block k (by omega)⟩

set_option maxHeartbeats 2000000 in
theorem nil_walk (W : World) (off : Int) (s : ByteArray) (v : Value) (hs : s.size ≤ 9223372036854775807) :
    Calls Try.prog 12 #[.int .i64 off, .string s, v] W fun e w' => e = .returned (.bool true) ∧ Below W.heap.size W w' := by
  go_enter Try.func12, Try.ntmps12
  go_wp2_with fail
  refine (sanity_any _).mono ?_
  rintro e w1 ⟨rfl, q1⟩
  have K1 := Lib.hid q1
  clear q1
  go_wp2_with fail
  refine (fail_nil w1 off).mono ?_
  rintro e w' ⟨rfl, rfl⟩
  go_wp2_with fail
  refine (crash_nil w1 v).mono ?_
  rintro e w2 ⟨rfl, d2, q2⟩
  have K2 := Lib.hid (K1.out.trans q2 fun _ h => h.elim)
  have D2 := Lib.hid (d2.down K1.out.size)
  clear q2 d2
  go_wp2_with fail
  refine (rnew_R _).mono ?_
  rintro e w4 ⟨rfl, r4, q4⟩
  have k3 := (Kp.alloc (fun _ => False) w2 (.cells #[.slice none 0 0, .slice none 0 0, .slice none 0 0, .int .i64 0, .int .i64 0, .int .i64 0] 60))
  have K4 := Lib.hid ((K2.out.trans k3 fun _ h => h.elim).trans q4 fun _ h => h.elim)
  have C4 := Lib.hid ((D2.out.keep k3 (fun _ _ h => h)).keep q4 (fun _ _ h => h))
  have d3 : DiskP (w2.alloc (.cells #[.slice none 0 0, .slice none 0 0, .slice none 0 0, .int .i64 0, .int .i64 0, .int .i64 0] 60)) w2.heap.size w2.heap.size (.slice none 0 0) (.slice none 0 0) (.slice none 0 0) fresh :=
    ⟨Nat.le_refl _, heap_alloc_new w2 _, ⟨rfl, .inl ⟨rfl, rfl⟩⟩, ⟨rfl, .inl ⟨rfl, rfl⟩⟩, ⟨rfl, .inl ⟨rfl, rfl⟩⟩, (fun k hk => by cases hk), by simp [fresh], by simp [fresh], (fun p hp => by cases hp)⟩
  have LT := Lib.hid (fun k (h : foot w1.heap.size (.slice none 0 0) (.slice none 0 0) (.slice none 0 0) k) => (D2.out.foot_lt h).2)
  have NW := Lib.hid K2.out.size
  have D4 := Lib.hid (d3.keep q4 (fun _ _ h => h))
  have hs4 : w2.heap.size ≤ (w2.alloc (.cells #[.slice none 0 0, .slice none 0 0, .slice none 0 0, .int .i64 0, .int .i64 0, .int .i64 0] 60)).heap.size := by simp
  have R4 := Lib.hid (r4.down hs4)
  clear k3 d3 q4 r4 hs4
  have x5 := newDesk D4.out R4.out
  have es : (w2.alloc (.cells #[.slice none 0 0, .slice none 0 0, .slice none 0 0, .int .i64 0, .int .i64 0, .int .i64 0] 60)).heap.size = w2.heap.size + 1 := by simp
  rw [es] at x5
  clear es
  go_wp2_with fail
  obtain ⟨N, hN⟩ : ∃ N, N = w2.heap.size := ⟨_, rfl⟩
  rw [← hN] at LT NW
  obtain ⟨w5, hw5⟩ : ∃ w5, w5 = w4.alloc (.cells #[.pointer (some ⟨w2.heap.size, 0, none⟩), .pointer (some ⟨w2.heap.size + 1, 0, none⟩)] 30) := ⟨_, rfl⟩
  obtain ⟨bx, hbx⟩ : ∃ bx, bx = w4.heap.size := ⟨_, rfl⟩
  have q5 : Kp (fun _ => False) w4 w5 := by rw [hw5]; exact Kp.alloc _ _ _
  have X5 : Hid (DeskAt w5 N bx fresh rfresh) := by rw [hw5, hbx, hN]; exact ⟨_, _, _, _, _, _, x5⟩
  have C5 := Lib.hid (C4.out.keep q5 (fun _ _ h => h))
  have K5 := Lib.hid (K4.out.trans q5 fun _ h => h.elim)
  rw [← hw5, ← hbx]
  clear D4 R4 K4 C4 D2 K2 K1 x5 q5 hw5 hN hbx
  refine (do_any X5.out Same.fresh 0 off 0 s hs (by simp [fresh])).mono ?_
  rintro e w6 ⟨rfl, ⟨s6, r6, h6, hs6, hl6⟩, b6⟩
  have X6 := Lib.hid h6
  have S6 := Lib.hid hs6
  have C6 := Lib.hid (C5.out.keep (kp_above b6) (fun k h h' => by have := LT.out k h; omega))
  have B6 := Lib.hid (K5.out.belowS.trans (b6.mono NW.out))
  have e0 : fresh.later.length = 0 := rfl
  clear h6 hs6 b6
  go_wp2_with fail
  refine (do_any X6.out S6.out 7 0 off _ (by decide) (by omega)).mono ?_
  rintro e w7 ⟨rfl, ⟨s7, r7, h7, hs7, hl7⟩, b7⟩
  have X7 := Lib.hid h7
  have S7 := Lib.hid hs7
  have C7 := Lib.hid (C6.out.keep (kp_above b7) (fun k h h' => by have := LT.out k h; omega))
  have B7 := Lib.hid (B6.out.trans (b7.mono NW.out))
  clear h7 hs7 b7 hl6 hl7 e0
  go_wp2_with fail
  refine (same_any X7.out S7.out).mono ?_
  rintro e w8 ⟨rfl, q8⟩
  have C8 := Lib.hid (C7.out.keep (kp_drewN q8) (fun _ _ h => h))
  have B8 := Lib.hid (B7.out.trans (kp_belowB (kp_drewN q8) B7.out.size))
  clear q8
  go_wp2_with fail
  refine (size_nil w8).mono ?_
  rintro e w' ⟨rfl, rfl⟩
  go_wp2_with fail
  refine (calls_nil w8).mono ?_
  rintro e w' ⟨rfl, rfl⟩
  go_wp2_with fail
  refine (read_nil w8 _ _).mono ?_
  rintro e w' ⟨rfl, rfl⟩
  go_wp2_with fail
  refine (write_nil w8 _ _).mono ?_
  rintro e w' ⟨rfl, rfl⟩
  go_wp2_with fail
  refine (sync_nil w8).mono ?_
  rintro e w' ⟨rfl, rfl⟩
  go_wp2_with fail
  refine (size_at C8.out 0 rfl).mono ?_
  rintro e w' ⟨rfl, rfl⟩
  go_wp2_with fail
  refine (write_at C8.out 0 _ 0 (writeC_ok rfl (by decide) (by decide)) (by decide) (by simp [fresh])).mono ?_
  rintro e w9 ⟨rfl, a1, a2, a3, d9, q9, f9⟩
  have B9 := Lib.hid (B8.out.trans (q9.below (fun k h => (C8.out.foot_lt h).1) B8.out.size))
  clear d9 q9 f9
  go_wp2_with fail
  go_ret
  exact ⟨rfl, B9.out⟩

end Go.Proofs.Yteekoocbdapciaa
