/- The desk's act Write. -/
import Derived.Test.YteekoocbdapciaaE2
namespace Go.Proofs.Yteekoocbdapciaa
open Go.RowKit Go.Lib

set_option maxHeartbeats 1000000 in
theorem do_write {w : World} {B x bd bm : Nat} {vn vs vl vp : Value} {s : DS} {r : RS} (h : Env w B x bd bm vn vs vl vp s r) (hs : Same s r) (k o n : Int) (t : ByteArray) (hk : k % 8 < 4) (ht : t.size ≤ 9223372036854775807) (hl : s.later.length ≤ 1000000000) :
    Calls Try.prog 16 #[.pointer (some ⟨x, 0, none⟩), .agg #[.int .i64 k, .int .i64 o, .int .i64 n, .string t]] w (DoPost B x w (s.writeS (whereI o) (longB t n)) (r.writeS (whereI o) (longB t n))) := by
  obtain ⟨h1, b1⟩ := EnvA.start h k o n t
  obtain ⟨x0, x1, a0, a1, a2, a3⟩ := (h1.keep (Kp.drew _ _)).s6
  have hz := longB_size t n
  have HC := Lib.hid (hs.write (whereI o) (longB t n)).2
  have hrl : Hid (r.parts.length ≤ 1000000000) := Lib.hid (by rw [hs.parts]; exact hl)
  have B1 := Lib.hid b1
  have H1 := Lib.hid h1
  obtain ⟨m, hm⟩ : ∃ m : Int, m = k % 8 := ⟨_, rfl⟩
  have hm0 : 0 ≤ m := by omega
  have hm4 : m < 4 := by omega
  have m4 : (m == 4) = false := by rw [beq_eq_false_iff_ne]; omega
  have m5 : (m == 5) = false := by rw [beq_eq_false_iff_ne]; omega
  have m6 : (m == 6) = false := by rw [beq_eq_false_iff_ne]; omega
  have m7 : (m == 7) = false := by rw [beq_eq_false_iff_ne]; omega
  have HK := Lib.hid hm.symm
  clear h h1 b1 hs hm hk
  have tok1 : True := trivial
  have tok2 : True := trivial
  go_enter Try.func16, Try.ntmps16
  go_wp2_with fail
  refine (mod_any k 8 _ (by omega) (by omega)).mono ?_
  rintro e w' ⟨rfl, rfl⟩
  rw [HK.out]
  go_wp2_with fail
  go_region_held3 (fun w' => w'.cell? ⟨x, 0, none⟩ = some (.pointer (some ⟨bd, 0, none⟩)) ∧ w'.cell? ⟨x, 1, none⟩ = some (.pointer (some ⟨bm, 0, none⟩)) ∧ w'.cell? ⟨w.heap.size, 0, none⟩ = some (.int .i64 k) ∧ w'.cell? ⟨w.heap.size, 1, none⟩ = some (.int .i64 o) ∧ w'.cell? ⟨w.heap.size, 2, none⟩ = some (.int .i64 n) ∧ w'.cell? ⟨w.heap.size, 3, none⟩ = some (.string t))
    (first | go_keep | exact h7.s6 | exact h6.s6 | exact h5.s6 | exact h4.s6 | exact h3.s6 | exact h2.s6)
    (first
      | (go_at_call 34; have _t := tok1; clear tok1 _t; refine (where_any _ _ _ _ _).mono ?_; rintro e w1 ⟨rfl, k2⟩; have h2 := (H1.out.keep (Kp.drew _ _)).keep k2)
      | (go_at_call 36; have _t := tok2; clear tok2 _t; refine (long_any _ _ _ _ _ ht).mono ?_; rintro e w2 ⟨rfl, k3⟩; have h3 := h2.keep k3)
      | (go_at_call 27; refine (write_D h3.e.d _ _ (by omega) hl).mono ?_; rintro e w3 ⟨rfl, vn1, vs1, vl1, hd1, k4, hf1⟩; have h4 := h3.disk k4 hd1)
      | (go_at_call 34; refine (where_any _ _ _ _ _).mono ?_; rintro e w4 ⟨rfl, k5⟩; have h5 := h4.keep k5)
      | (go_at_call 36; refine (long_any _ _ _ _ _ ht).mono ?_; rintro e w5 ⟨rfl, k6⟩; have h6 := h5.keep k6)
      | (go_at_call 32; refine (write_R h6.e.r _ _ (by omega) hrl.out).mono ?_; rintro e w6 ⟨rfl, vp1, hr1, k7, hf2⟩; have h7 := h6.ref k7 hr1))
  have H7 := Lib.hid h7
  have BB := Lib.hid ((((((B1.out.drew.trans ((H1.out.keep (Kp.drew _ _)).e.below0 k2)).trans (h2.e.below0 k3)).trans (h3.e.belowD k4)).trans (h4.e.below0 k5)).trans (h5.e.below0 k6)).trans (h6.e.belowR k7))
  clear h2 h3 h4 h5 h6 h7 k2 k3 k4 k5 k6 k7 x0 x1 a0 a1 a2 a3 H1 B1 hd1 hr1 hf1 hf2
  go_wp2_with fail
  go_ret
  exact ⟨by rw [HC.out]; simp, ⟨_, _, _, _, _, _, H7.out.e⟩, BB.out⟩

end Go.Proofs.Yteekoocbdapciaa
