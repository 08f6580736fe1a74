/- The desk's acts: Read, Fail, Write. -/
import Derived.Test.YteekoocbdapciaaE1
namespace Go.Proofs.Yteekoocbdapciaa
open Go.RowKit Go.Lib

/-- With the act's own block. -/
structure EnvA (w : World) (B x bx bd bm : Nat) (vn vs vl vp : Value) (s : DS) (r : RS) (k o n : Int) (t : ByteArray) : Prop where
  e : Env w B x bd bm vn vs vl vp s r
  a : w.heap[bx]? = some (.cells #[.int .i64 k, .int .i64 o, .int .i64 n, .string t] 33 (0, 0))

theorem EnvA.keep {w w' : World} {B x bx bd bm : Nat} {vn vs vl vp : Value} {s : DS} {r : RS} {k o n : Int} {t : ByteArray} (h : EnvA w B x bx bd bm vn vs vl vp s r k o n t) (hk : Kp (fun _ => False) w w') : EnvA w' B x bx bd bm vn vs vl vp s r k o n t :=
  ⟨h.e.keep hk, hk.heap h.a (fun h => h)⟩
theorem EnvA.disk {w w' : World} {B x bx bd bm : Nat} {vn vs vl vp vn' vs' vl' : Value} {s s' : DS} {r : RS} {k o n : Int} {t : ByteArray} (h : EnvA w B x bx bd bm vn vs vl vp s r k o n t) (hk : Kp (foot bd vn vs vl) w w') (hd : DiskP w' B bd vn' vs' vl' s') : EnvA w' B x bx bd bm vn' vs' vl' vp s' r k o n t :=
  ⟨h.e.disk hk hd, hk.heap h.a (h.e.d.not_foot h.a (by decide) (by decide) (by decide))⟩
theorem EnvA.ref {w w' : World} {B x bx bd bm : Nat} {vn vs vl vp vp' : Value} {s : DS} {r r' : RS} {k o n : Int} {t : ByteArray} (h : EnvA w B x bx bd bm vn vs vl vp s r k o n t) (hk : Kp (footR bm vp) w w') (hd : RefP w' B bm vp' r') : EnvA w' B x bx bd bm vn vs vl vp' s r' k o n t :=
  ⟨h.e.ref hk hd, hk.heap h.a (h.e.r.not_foot h.a (by decide) (by decide))⟩

theorem EnvA.s6 {w : World} {B x bx bd bm : Nat} {vn vs vl vp : Value} {s : DS} {r : RS} {k o n : Int} {t : ByteArray} (h : EnvA w B x bx bd bm vn vs vl vp s r k o n t) :
    w.cell? ⟨x, 0, none⟩ = some (.pointer (some ⟨bd, 0, none⟩)) ∧ w.cell? ⟨x, 1, none⟩ = some (.pointer (some ⟨bm, 0, none⟩)) ∧
      w.cell? ⟨bx, 0, none⟩ = some (.int .i64 k) ∧ w.cell? ⟨bx, 1, none⟩ = some (.int .i64 o) ∧ w.cell? ⟨bx, 2, none⟩ = some (.int .i64 n) ∧ w.cell? ⟨bx, 3, none⟩ = some (.string t) :=
  ⟨h.e.x01.1, h.e.x01.2, cell_of_row w bx 0 _ _ _ h.a, cell_of_row w bx 1 _ _ _ h.a, cell_of_row w bx 2 _ _ _ h.a, cell_of_row w bx 3 _ _ _ h.a⟩

theorem EnvA.start {w : World} {B x bd bm : Nat} {vn vs vl vp : Value} {s : DS} {r : RS} (h : Env w B x bd bm vn vs vl vp s r) (k o n : Int) (t : ByteArray) :
    EnvA (w.alloc (.cells #[.int .i64 k, .int .i64 o, .int .i64 n, .string t] 33)) B x w.heap.size bd bm vn vs vl vp s r k o n t ∧ Below B w (w.alloc (.cells #[.int .i64 k, .int .i64 o, .int .i64 n, .string t] 33)) :=
  ⟨⟨h.keep (Kp.alloc _ _ _), heap_alloc_new w _⟩, h.below0 (Kp.alloc _ _ _)⟩

theorem kp_drewN {w w' : World} (h : ∃ j, w' = w.drewN j) : Kp (fun _ => False) w w' := by
  obtain ⟨j, rfl⟩ := h
  exact Kp.drewN _ _ _

set_option maxHeartbeats 1000000 in
theorem do_fail {w : World} {B x bd bm : Nat} {vn vs vl vp : Value} {s : DS} {r : RS} (h : Env w B x bd bm vn vs vl vp s r) (k o n : Int) (t : ByteArray) (hk : k % 8 = 6) :
    Calls Try.prog 16 #[.pointer (some ⟨x, 0, none⟩), .agg #[.int .i64 k, .int .i64 o, .int .i64 n, .string t]] w (DoPost B x w (s.fail (n % 9 - 1)) (r.fail (n % 9 - 1))) := by
  obtain ⟨h1, b1⟩ := EnvA.start h k o n t
  obtain ⟨x0, x1, a0, a1, a2, a3⟩ := h1.s6
  obtain ⟨m, hm⟩ : ∃ m : Int, m = n % 9 := ⟨_, rfl⟩
  have hm0 : 0 ≤ m := by omega
  have hm9 : m < 9 := by omega
  rw [← hm]
  have HM := Lib.hid hm.symm
  have HK := Lib.hid hk
  have B1 := Lib.hid b1
  have H1 := Lib.hid h1
  clear hk h h1 b1 hm
  go_enter Try.func16, Try.ntmps16
  go_wp2_with fail
  refine (mod_any k 8 _ (by omega) (by omega)).mono ?_
  rintro e w' ⟨rfl, rfl⟩
  rw [HK.out]
  go_wp2_with fail
  refine (mod_any n 9 _ (by omega) (by omega)).mono ?_
  rintro e w' ⟨rfl, rfl⟩
  rw [HM.out]
  go_wp2_with fail
  refine (fail_D H1.out.e.d (m - 1)).mono ?_
  rintro e w1 ⟨rfl, vn1, vs1, vl1, hd1, hk1, hf1⟩
  have h3 := H1.out.disk hk1 hd1
  obtain ⟨y0, y1, c0, c1, c2, c3⟩ := h3.s6
  have H3 := Lib.hid h3
  have B2 := Lib.hid (B1.out.trans (H1.out.e.belowD hk1))
  clear h3 hd1 hk1 hf1 x0 x1 a0 a1 a2 a3
  go_wp2_with fail
  refine (fail_R H3.out.e.r (m - 1)).mono ?_
  rintro e w2 ⟨rfl, vp1, hr1, hk2, hf2⟩
  have h4 := H3.out.ref hk2 hr1
  have H4 := Lib.hid h4
  have B3 := Lib.hid (B2.out.trans (H3.out.e.belowR hk2))
  clear h4 hr1 hk2 hf2 y0 y1 c0 c1 c2 c3
  go_wp2_with fail
  go_ret
  exact ⟨rfl, ⟨_, _, _, _, _, _, H4.out.e⟩, B3.out⟩

set_option maxHeartbeats 1000000 in
theorem do_read {w : World} {B x bd bm : Nat} {vn vs vl vp : Value} {s : DS} {r : RS} (h : Env w B x bd bm vn vs vl vp s r) (hs : Same s r) (k o n : Int) (t : ByteArray) (hk : k % 8 = 5) :
    Calls Try.prog 16 #[.pointer (some ⟨x, 0, none⟩), .agg #[.int .i64 k, .int .i64 o, .int .i64 n, .string t]] w (DoPost B x w s r) := by
  obtain ⟨h1, b1⟩ := EnvA.start h k o n t
  obtain ⟨x0, x1, a0, a1, a2, a3⟩ := (h1.keep (Kp.drew _ _)).s6
  have HNOW := Lib.hid hs.now
  have HK := Lib.hid hk
  have B1 := Lib.hid b1
  have H1 := Lib.hid h1
  clear hk h h1 b1 hs
  have tok1 : True := trivial
  go_enter Try.func16, Try.ntmps16
  go_wp2_with (first | (go_at_call 22; refine (mod_any k 8 _ (by omega) (by omega)).mono ?_; rintro e w' ⟨rfl, rfl⟩; rw [HK.out]))
  go_region_held3 (fun w' => w'.cell? ⟨x, 0, none⟩ = some (.pointer (some ⟨bd, 0, none⟩)) ∧ w'.cell? ⟨x, 1, none⟩ = some (.pointer (some ⟨bm, 0, none⟩)) ∧ w'.cell? ⟨w.heap.size, 0, none⟩ = some (.int .i64 k) ∧ w'.cell? ⟨w.heap.size, 1, none⟩ = some (.int .i64 o) ∧ w'.cell? ⟨w.heap.size, 2, none⟩ = some (.int .i64 n) ∧ w'.cell? ⟨w.heap.size, 3, none⟩ = some (.string t))
    (first | go_keep | exact h5.s6 | exact h4.s6 | exact h3.s6 | exact h2.s6)
    (first
      | (go_at_call 34; have _t := tok1; clear tok1 _t; refine (where_any _ _ _ _ _).mono ?_; rintro e w1 ⟨rfl, k2⟩; have h2 := (H1.out.keep (Kp.drew _ _)).keep k2)
      | (go_at_call 29; refine (read_any h2.e.d _ _).mono ?_; rintro e w2 ⟨rfl, k3⟩; have h3 := h2.keep (kp_drewN k3))
      | (go_at_call 34; refine (where_any _ _ _ _ _).mono ?_; rintro e w3 ⟨rfl, k4⟩; have h4 := h3.keep k4)
      | (go_at_call 31; refine (rread_any h4.e.r _ _).mono ?_; rintro e w4 ⟨rfl, k5⟩; have h5 := h4.keep (kp_drewN k5)))
  have H5 := Lib.hid h5
  have BB := Lib.hid ((((B1.out.drew.trans ((H1.out.keep (Kp.drew _ _)).e.below0 k2)).trans (h2.e.below0 (kp_drewN k3))).trans (h3.e.below0 k4)).trans (h4.e.below0 (kp_drewN k5)))
  clear h2 h3 h4 h5 k2 k3 k4 k5 x0 x1 a0 a1 a2 a3 H1 B1
  go_wp2_with fail
  go_ret
  exact ⟨by rw [HNOW.out]; simp, ⟨_, _, _, _, _, _, H5.out.e⟩, BB.out⟩

end Go.Proofs.Yteekoocbdapciaa
