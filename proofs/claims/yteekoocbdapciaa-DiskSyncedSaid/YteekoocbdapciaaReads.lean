/- Walk: the law DiskReads. -/
import Derived.Test.YteekoocbdapciaaC1
namespace Go.Proofs.Yteekoocbdapciaa
open Go.RowKit Go.Lib

/-- With the block of a pair of integers that came in by value. -/
structure EnvQ (w : World) (B x qb bd bm : Nat) (vn vs vl vp : Value) (s : DS) (r : RS) (t0 t1 : Int) : Prop where
  e : Env w B x bd bm vn vs vl vp s r
  q : w.heap[qb]? = some (.cells #[.int .i64 t0, .int .i64 t1] 42 (0, 0))

theorem EnvQ.keep {w w' : World} {B x qb bd bm : Nat} {vn vs vl vp : Value} {s : DS} {r : RS} {t0 t1 : Int} (h : EnvQ w B x qb bd bm vn vs vl vp s r t0 t1) (hk : Kp (fun _ => False) w w') : EnvQ w' B x qb bd bm vn vs vl vp s r t0 t1 :=
  ⟨h.e.keep hk, hk.heap h.q (fun h => h)⟩
theorem EnvQ.s4 {w : World} {B x qb bd bm : Nat} {vn vs vl vp : Value} {s : DS} {r : RS} {t0 t1 : Int} (h : EnvQ w B x qb bd bm vn vs vl vp s r t0 t1) :
    w.cell? ⟨x, 0, none⟩ = some (.pointer (some ⟨bd, 0, none⟩)) ∧ w.cell? ⟨x, 1, none⟩ = some (.pointer (some ⟨bm, 0, none⟩)) ∧ w.cell? ⟨qb, 0, none⟩ = some (.int .i64 t0) ∧ w.cell? ⟨qb, 1, none⟩ = some (.int .i64 t1) :=
  ⟨h.e.x01.1, h.e.x01.2, cell_of_row w qb 0 _ _ _ h.q, cell_of_row w qb 1 _ _ _ h.q⟩

set_option maxHeartbeats 2000000 in
theorem reads_walk (W : World) (s : ByteArray) (at0 t0 t1 : Int) (hs : s.size ≤ 9223372036854775807) :
    Calls Try.prog 10 #[.string s, .int .i64 at0, .agg #[.int .i64 t0, .int .i64 t1]] W fun e w' => e = .returned (.bool true) ∧ Below W.heap.size W w' := by
  obtain ⟨m, hm⟩ : ∃ m : Int, m = at0 % 8 := ⟨_, rfl⟩
  have hm0 : 0 ≤ m := by omega
  have hm8 : m < 8 := by omega
  have HM := Lib.hid hm.symm
  clear hm
  go_enter Try.func10, Try.ntmps10
  go_wp2_with fail
  obtain ⟨w0, hw0⟩ : ∃ w0, w0 = W.alloc (.cells #[.int .i64 t0, .int .i64 t1] 42) := ⟨_, rfl⟩
  have QB : Hid (w0.heap[W.heap.size]? = some (.cells #[.int .i64 t0, .int .i64 t1] 42 (0, 0))) := by rw [hw0]; exact heap_alloc_new W _
  have BW : Hid (Below W.heap.size W w0) := by rw [hw0]; exact (Kp.alloc (fun _ => False) W _).belowS
  rw [← hw0]
  clear hw0
  refine (sanity_any _).mono ?_
  rintro e w1 ⟨rfl, q1⟩
  have K1 := Lib.hid (q1)
  clear q1
  go_wp2_with fail
  refine (new_D w1).mono ?_
  rintro e w2 ⟨rfl, d2, q2⟩
  have K2 := Lib.hid (K1.out.trans q2 fun _ h => h.elim)
  have D2 := Lib.hid (d2.down K1.out.size)
  clear q2 d2
  go_wp2_with fail
  refine (rnew_R w2).mono ?_
  rintro e w3 ⟨rfl, r3, q3⟩
  have D3 := D2.out.keep q3 (fun _ _ h => h)
  have R3 := r3.down K2.out.size
  have K3 := Lib.hid (K2.out.trans q3 fun _ h => h.elim)
  have x3 := newDesk D3 R3
  have K4 := Lib.hid ((K3.out.trans (Kp.alloc (fun _ => False) w3 (.cells #[.pointer (some ⟨w1.heap.size, 0, none⟩), .pointer (some ⟨w2.heap.size, 0, none⟩)] 30)) fun _ h => h.elim).belowS)
  have X4 : Hid (DeskAt (w3.alloc (.cells #[.pointer (some ⟨w1.heap.size, 0, none⟩), .pointer (some ⟨w2.heap.size, 0, none⟩)] 30)) w0.heap.size w3.heap.size fresh rfresh) := Lib.hid ⟨_, _, _, _, _, _, x3⟩
  clear q3 r3 D3 R3 x3
  go_wp2_with fail
  refine (mod_any at0 8 _ (by omega) (by omega)).mono ?_
  rintro e w' ⟨rfl, rfl⟩
  rw [HM.out]
  go_wp2_with fail
  refine (do_any X4.out Same.fresh 0 (1 + m) 0 s hs (by simp [fresh])).mono ?_
  rintro e w5 ⟨rfl, ⟨s', r', hd5, hs5, hl5⟩, hb5⟩
  have B5 := Lib.hid (K4.out.trans hb5)
  obtain ⟨bd, bm, vn, vs, vl, vp, h5⟩ := hd5
  have H5 : Hid (EnvQ w5 w0.heap.size w3.heap.size W.heap.size bd bm vn vs vl vp s' r' t0 t1) :=
    Lib.hid ⟨h5, (B5.out.block W.heap.size (Array.getElem?_eq_some_iff.1 QB.out).1).trans QB.out⟩
  have HS := Lib.hid hs5
  clear h5 hs5 hb5 hl5
  obtain ⟨x0, x1, c0, c1⟩ := H5.out.s4
  go_wp2_with fail
  refine (mod_any t0 230 _ (by omega) (by omega)).mono ?_
  rintro e w' ⟨rfl, rfl⟩
  obtain ⟨k, hk⟩ : ∃ k, k = t0 % 230 := ⟨_, rfl⟩
  rw [← hk]
  clear hk
  go_wp2_with fail
  go_quiet ((first
    | (go_at_call 22; exact quiet_eq (mod_any _ _ _ (by omega) (by omega)))
    | (go_at_call 29; exact Calls.quiet_of (read_any (H5.out.keep (Kp.drewN _ _ _)).e.d _ _))
    | (go_at_call 31; exact Calls.quiet_of (rread_same (H5.out.keep (Kp.drewN _ _ _)).e.r HS.out _ _))))
  go_wp2_with fail
  go_ret
  exact ⟨rfl, BW.out.trans ((B5.out.trans (H5.out.e.below0 (Kp.drewN _ _ _))).mono BW.out.size)⟩

end Go.Proofs.Yteekoocbdapciaa
