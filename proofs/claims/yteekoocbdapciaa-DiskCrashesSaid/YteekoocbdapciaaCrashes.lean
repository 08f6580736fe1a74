/- Walk: the law DiskCrashes. -/
import Derived.Test.YteekoocbdapciaaAgain
namespace Go.Proofs.Yteekoocbdapciaa
open Go.RowKit Go.Lib

theorem newDeskB {w : World} {B bd bm : Nat} {vn vs vl vp : Value} {s : DS} {r : RS} (hd : DiskP w B bd vn vs vl s) (hr : RefP w B bm vp r) :
    DeskAt (w.alloc (.cells #[.pointer (some ⟨bd, 0, none⟩), .pointer (some ⟨bm, 0, none⟩)] 30)) B w.heap.size s r := ⟨_, _, _, _, _, _, newDesk hd hr⟩

set_option maxHeartbeats 4000000 in
theorem crashes_walk (W : World) (v va : Value) (n : Int) (L : List (Int × Int × Int × ByteArray)) (qa : List Int) (hv : Acts W v L) (ha : Ints W va qa) (hqa : qa.length ≤ 9223372036854775807) :
    Calls Try.prog 4 #[v, va, .int .i64 n] W fun e w' => e = .returned (.bool true) ∧ Below W.heap.size W w' := by
  obtain ⟨hn, hts, sp, cap, rfl, hc⟩ := hv
  have hsv := survL_length n
  have HC := Lib.hid hc
  have HT := Lib.hid hts
  have HA := Lib.hid ha
  clear hc hts ha
  have tok1 : True := trivial
  have tok2 : True := trivial
  go_enter Try.func4, Try.ntmps4
  go_wp2_with fail
  refine (sanity_any _).mono ?_
  rintro e w1 ⟨rfl, q1⟩
  have K1 := Lib.hid (q1)
  clear q1
  go_wp2_with fail
  refine (new_D w1).mono ?_
  rintro e w2 ⟨rfl, d2, q2⟩
  have K2 := Lib.hid (K1.out.trans q2 fun _ h => h.elim)
  have D2 := Lib.hid (d2.down K1.out.size)
  clear q2 d2
  go_wp2_with fail
  refine (rnew_R w2).mono ?_
  rintro e w3 ⟨rfl, r3, q3⟩
  have D3 := D2.out.keep q3 (fun _ _ h => h)
  have R3 := r3.down K2.out.size
  have K3 := Lib.hid (K2.out.trans q3 fun _ h => h.elim)
  have x3 := newDesk D3 R3
  have K4 := Lib.hid ((K3.out.trans (Kp.alloc (fun _ => False) w3 (.cells #[.pointer (some ⟨w1.heap.size, 0, none⟩), .pointer (some ⟨w2.heap.size, 0, none⟩)] 30)) fun _ h => h.elim).belowS)
  have X4 : Hid (DeskAt (w3.alloc (.cells #[.pointer (some ⟨w1.heap.size, 0, none⟩), .pointer (some ⟨w2.heap.size, 0, none⟩)] 30)) W.heap.size w3.heap.size fresh rfresh) := Lib.hid ⟨_, _, _, _, _, _, x3⟩
  clear q3 r3 D3 R3 x3
  go_wp2_with fail
  go_loopw [9] (fun i wr => ARel W w3.heap.size L.length 20 i wr) (fun i _ => L.length - (intOf i).toNat)
  case atStart => exact ⟨0, _, _, rfl, by omega, by omega, X4.out, Same.fresh, by simp [fresh], K4.out⟩
  case round =>
    obtain ⟨k, s, r, rfl, hk, hk15, hX, hS, hl, hb⟩ := hrel
    have HX := Lib.hid hX
    have HS := Lib.hid hS
    have HB := Lib.hid hb
    clear hX hS hb
    by_cases h12 : k < L.length ∧ k < 20
    · obtain ⟨h1, h2⟩ := h12
      obtain ⟨b, off, hsp, hcell⟩ := HC.out (by omega)
      subst hsp
      obtain ⟨c0, c1, c2, c3⟩ := hcell k h1
      have hbl := World.block_lt_of_cell? W _ c0
      have g0 := (HB.out.cell (p := ⟨b, off + k * 4, none⟩) hbl).trans c0
      have g1 := (HB.out.cell (p := ⟨b, off + k * 4 + 1, none⟩) hbl).trans c1
      have g2 := (HB.out.cell (p := ⟨b, off + k * 4 + 2, none⟩) hbl).trans c2
      have g3 := (HB.out.cell (p := ⟨b, off + k * 4 + 3, none⟩) hbl).trans c3
      have ht := HT.out _ (List.getElem_mem h1)
      clear hcell c0 c1 c2 c3
      obtain ⟨a, ha⟩ : ∃ a, a = L[k] := ⟨_, rfl⟩
      rw [← ha] at g0 g1 g2 g3 ht
      clear ha
      go_wp2_with fail
      refine (mod_any a.1 5 _ (by omega) (by omega)).mono ?_
      rintro e w' ⟨rfl, rfl⟩
      have k5 := Kp.alloc (fun _ => False) wr (.cells #[.int .i64 (a.1 % 5), .int .i64 a.2.1, .int .i64 a.2.2.1, .string a.2.2.2] 33)
      have HX5 := Lib.hid (HX.out.keep k5)
      have HB5 := Lib.hid (HB.out.trans (kp_belowB k5 HX.out.sizeB))
      clear k5 g0 g1 g2 g3
      go_wp2_with fail
      refine (do_any HX5.out HS.out _ _ _ _ ht (by omega)).mono ?_
      rintro e w6 ⟨rfl, ⟨s', r', hd6, hs6, hl6⟩, hb6⟩
      have H6 := Lib.hid hd6
      have HS6 := Lib.hid hs6
      have HB6 := Lib.hid (HB5.out.trans hb6)
      clear hd6 hs6 hb6 HX5 HB5
      go_wp2_with fail
      go_roundw
      case rel => exact ⟨k + 1, s', r', by simp, by omega, by omega, H6.out, HS6.out, by omega, HB6.out⟩
      case measure => simp [intOf]; omega
    · have hk2 : L.length ≤ k ∨ 20 ≤ k := by omega
      have HK2 := Lib.hid hk2
      obtain ⟨bd, bm, vn, vs, vl, vp, h⟩ := HX.out
      have hpl : Hid (r.parts.length ≤ 1000000000) := Lib.hid (by rw [HS.out.parts]; omega)
      have H := Lib.hid (h.keep (Kp.drew _ _))
      have B0 := Lib.hid HB.out.drew
      obtain ⟨x0, x1⟩ := H.out.x01
      clear h h12 hk2
      by_cases h1 : k < L.length
      all_goals
        have h3 := HK2.out
        go_wp2_with fail
        go_region_held3 (fun w' => w'.cell? ⟨w3.heap.size, 0, none⟩ = some (.pointer (some ⟨bd, 0, none⟩)) ∧ w'.cell? ⟨w3.heap.size, 1, none⟩ = some (.pointer (some ⟨bm, 0, none⟩)))
          (first | go_keep | exact hS2 | exact hS1)
          (first
            | (go_at_call 23; refine (crash_any H.out.d va qa (HA.out.below B0.out) (by omega) hqa).mono ?_; rintro e w6 ⟨g6, vn6, vs6, rfl, d6, q6⟩; have h6 := H.out.keep q6; have hS1 := h6.x01; have b6 := B0.out.trans (H.out.below0 q6))
            | (go_at_call 24; refine (rcrash_any h6.r va qa (HA.out.below b6) hpl.out hqa).mono ?_; rintro e w7 ⟨g7, rfl, r7, q7⟩; have h7 := h6.keep q7; have hS2 := h7.x01; have b7 := b6.trans (h6.below0 q7)))
        have D7 := (d6.keep q7 (fun _ _ h => h)).down B0.out.size
        have R7 := r7.down b6.size
        have ka := Kp.alloc (fun _ => False) w7 (.cells #[.pointer (some ⟨g6, 0, none⟩), .pointer (some ⟨g7, 0, none⟩)] 30)
        have X7 := Lib.hid ((newDeskB D7 R7).keep (Kp.drew _ _))
        have B7 := Lib.hid ((b7.trans (h7.below0 ka)).drew)
        have H7 := Lib.hid ((h7.keep ka).keep (Kp.drew _ _))
        clear h6 h7 b6 b7 D7 R7 ka d6 r7 q6 q7 hS1 hS2 x0 x1 B0
        obtain ⟨x0, x1⟩ := H7.out.x01
        go_wp2_with fail
        go_region_held3 (fun w' => w'.cell? ⟨w3.heap.size, 0, none⟩ = some (.pointer (some ⟨bd, 0, none⟩)) ∧ w'.cell? ⟨w3.heap.size, 1, none⟩ = some (.pointer (some ⟨bm, 0, none⟩)))
          (first | go_keep | exact h11.x01 | exact h10.x01 | exact h9.x01 | exact h8.x01)
          (first
            | (go_at_call 25; have _t := tok1; clear tok1 _t; refine (survive_any _ _).mono ?_; rintro e w8 ⟨v8, rfl, i8, q8⟩; have h8 := H7.out.keep q8)
            | (go_at_call 23; refine (crash_any h8.d _ _ i8 (by omega) (by omega)).mono ?_; rintro e w9 ⟨g9, vn9, vs9, rfl, d9, q9⟩; have h9 := h8.keep q9)
            | (go_at_call 25; have _t := tok2; clear tok2 _t; refine (survive_any _ _).mono ?_; rintro e w10 ⟨v10, rfl, i10, q10⟩; have h10 := h9.keep q10)
            | (go_at_call 24; refine (rcrash_any h10.r _ _ i10 hpl.out (by omega)).mono ?_; rintro e w11 ⟨g11, rfl, r11, q11⟩; have h11 := h10.keep q11))
        have b8 := B7.out.trans (H7.out.below0 q8)
        have b9 := b8.trans (h8.below0 q9)
        have b10 := b9.trans (h9.below0 q10)
        have b11 := b10.trans (h10.below0 q11)
        have D11 := ((d9.keep q10 (fun _ _ h => h)).keep q11 (fun _ _ h => h)).down b8.size
        have R11 := r11.down b10.size
        have ka := Kp.alloc (fun _ => False) w11 (.cells #[.pointer (some ⟨g9, 0, none⟩), .pointer (some ⟨g11, 0, none⟩)] 30)
        have Y11 := Lib.hid (newDeskB D11 R11)
        have X11 := Lib.hid (((((X7.out.keep q8).keep q9).keep q10).keep q11).keep ka)
        have H11 : Hid (DeskAt _ _ _ _ _) := Lib.hid ⟨_, _, _, _, _, _, h11.keep ka⟩
        have B11 := Lib.hid (b11.trans (h11.below0 ka))
        clear h8 h9 h10 h11 b8 b9 b10 b11 D11 R11 ka X7 B7 H7 x0 x1 d9 r11 q8 q9 q10 q11 i8 i10
        go_wp2_with fail
        refine (same_any X11.out (HS.out.crash qa)).mono ?_
        rintro e w12 ⟨rfl, q12⟩
        have Y12 := Lib.hid (Y11.out.keep (kp_drewN q12))
        have H12 := Lib.hid (H11.out.keep (kp_drewN q12))
        have B12 := Lib.hid (B11.out.trans (kp_belowB (kp_drewN q12) H11.out.sizeB))
        clear q12 X11 Y11 H11 B11
        go_wp2_with fail
        refine (same_any Y12.out (HS.out.crash _)).mono ?_
        rintro e w13 ⟨rfl, q13⟩
        have H13 := Lib.hid (H12.out.keep (kp_drewN q13))
        have B13 := Lib.hid (B12.out.trans (kp_belowB (kp_drewN q13) H12.out.sizeB))
        clear q13 Y12 H12 B12
        go_wp2_with fail
        refine (same_any H13.out HS.out).mono ?_
        rintro e w14 ⟨rfl, q14⟩
        have B14 := Lib.hid (B13.out.trans (kp_belowB (kp_drewN q14) H13.out.sizeB))
        clear q14 H13 B13
        go_wp2_with fail
        go_ret
        exact ⟨rfl, B14.out⟩

end Go.Proofs.Yteekoocbdapciaa
