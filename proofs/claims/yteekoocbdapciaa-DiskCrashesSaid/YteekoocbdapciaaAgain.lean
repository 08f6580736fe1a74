/- Walk: the law DiskAgain. -/
import Derived.Test.YteekoocbdapciaaC1
namespace Go.Proofs.Yteekoocbdapciaa
open Go.RowKit Go.Lib

def ARel (W : World) (x n M : Nat) (i : Value) (wr : World) : Prop :=
  ∃ (k : Nat) (s : DS) (r : RS), i = .int .i64 (k : Nat) ∧ k ≤ n ∧ k ≤ M ∧ DeskAt wr W.heap.size x s r ∧ Same s r ∧ s.later.length ≤ 200 * k ∧ Below W.heap.size W wr

set_option maxHeartbeats 2000000 in
theorem again_walk (W : World) (v va vb : Value) (L : List (Int × Int × Int × ByteArray)) (qa qb : List Int) (hv : Acts W v L) (ha : Ints W va qa) (hb : Ints W vb qb) (hqa : qa.length ≤ 9223372036854775807) (hqb : qb.length ≤ 9223372036854775807) :
    Calls Try.prog 9 #[v, va, vb] W fun e w' => e = .returned (.bool true) ∧ Below W.heap.size W w' := by
  obtain ⟨hn, hts, sp, cap, rfl, hc⟩ := hv
  have HC := Lib.hid hc
  have HT := Lib.hid hts
  have HA := Lib.hid ha
  have HB0 := Lib.hid hb
  clear hc hts ha hb
  go_enter Try.func9, Try.ntmps9
  go_wp2_with fail
  refine (sanity_any _).mono ?_
  rintro e w1 ⟨rfl, q1⟩
  have K1 := Lib.hid (q1)
  clear q1
  go_wp2_with fail
  refine (new_D w1).mono ?_
  rintro e w2 ⟨rfl, d2, q2⟩
  have K2 := Lib.hid (K1.out.trans q2 fun _ h => h.elim)
  have D2 := Lib.hid (d2.down K1.out.size)
  clear q2 d2
  go_wp2_with fail
  refine (rnew_R w2).mono ?_
  rintro e w3 ⟨rfl, r3, q3⟩
  have D3 := D2.out.keep q3 (fun _ _ h => h)
  have R3 := r3.down K2.out.size
  have K3 := Lib.hid (K2.out.trans q3 fun _ h => h.elim)
  have x3 := newDesk D3 R3
  have K4 := Lib.hid ((K3.out.trans (Kp.alloc (fun _ => False) w3 (.cells #[.pointer (some ⟨w1.heap.size, 0, none⟩), .pointer (some ⟨w2.heap.size, 0, none⟩)] 30)) fun _ h => h.elim).belowS)
  have X4 : Hid (DeskAt (w3.alloc (.cells #[.pointer (some ⟨w1.heap.size, 0, none⟩), .pointer (some ⟨w2.heap.size, 0, none⟩)] 30)) W.heap.size w3.heap.size fresh rfresh) := Lib.hid ⟨_, _, _, _, _, _, x3⟩
  clear q3 r3 D3 R3 x3
  go_wp2_with fail
  go_loopw [9] (fun i wr => ARel W w3.heap.size L.length 15 i wr) (fun i _ => L.length - (intOf i).toNat)
  case atStart => exact ⟨0, _, _, rfl, by omega, by omega, X4.out, Same.fresh, by simp [fresh], K4.out⟩
  case round =>
    obtain ⟨k, s, r, rfl, hk, hk15, hX, hS, hl, hb⟩ := hrel
    have HX := Lib.hid hX
    have HS := Lib.hid hS
    have HB := Lib.hid hb
    clear hX hS hb
    by_cases h12 : k < L.length ∧ k < 15
    · obtain ⟨h1, h2⟩ := h12
      obtain ⟨b, off, hsp, hcell⟩ := HC.out (by omega)
      subst hsp
      obtain ⟨c0, c1, c2, c3⟩ := hcell k h1
      have hbl := World.block_lt_of_cell? W _ c0
      have g0 := (HB.out.cell (p := ⟨b, off + k * 4, none⟩) hbl).trans c0
      have g1 := (HB.out.cell (p := ⟨b, off + k * 4 + 1, none⟩) hbl).trans c1
      have g2 := (HB.out.cell (p := ⟨b, off + k * 4 + 2, none⟩) hbl).trans c2
      have g3 := (HB.out.cell (p := ⟨b, off + k * 4 + 3, none⟩) hbl).trans c3
      have ht := HT.out _ (List.getElem_mem h1)
      clear hcell c0 c1 c2 c3
      obtain ⟨a, ha⟩ : ∃ a, a = L[k] := ⟨_, rfl⟩
      rw [← ha] at g0 g1 g2 g3 ht
      clear ha
      go_wp2_with fail
      refine (do_any HX.out HS.out _ _ _ _ ht (by omega)).mono ?_
      rintro e w5 ⟨rfl, ⟨s', r', hd5, hs5, hl5⟩, hb5⟩
      have H5 := Lib.hid hd5
      have HS5 := Lib.hid hs5
      have HB5 := Lib.hid (HB.out.trans hb5)
      clear hd5 hs5 hb5 g0 g1 g2 g3
      go_wp2_with fail
      go_roundw
      case rel => exact ⟨k + 1, s', r', by simp, by omega, by omega, H5.out, HS5.out, by omega, HB5.out⟩
      case measure => simp [intOf]; omega
    · obtain ⟨bd, bm, vn, vs, vl, vp, h⟩ := HX.out
      obtain ⟨x0, x1⟩ := h.x01
      have H := Lib.hid h
      have hk2 : L.length ≤ k ∨ 15 ≤ k := by omega
      have HK2 := Lib.hid hk2
      clear h h12 hk2
      by_cases h1 : k < L.length
      all_goals
        have h3 := HK2.out
        go_wp2_with fail
        refine (crash_any H.out.d _ qa (HA.out.below HB.out) (by omega) hqa).mono ?_
        rintro e w6 ⟨g6, vn6, vs6, rfl, d6, q6⟩
        have K6 := Lib.hid q6
        have B6 := Lib.hid (HB.out.trans (kp_belowB q6 H.out.sizeB))
        have D6 := Lib.hid d6
        clear q6 d6 x0 x1
        go_wp2_with fail
        refine (crash_any D6.out _ qb (HB0.out.below B6.out) (by simp [DS.crash]) hqb).mono ?_
        rintro e w7 ⟨g7, vn7, vs7, rfl, d7, q7⟩
        have c6 := D6.out.keep q7 (fun _ _ h => h)
        have C6 := Lib.hid c6
        have D7 : Hid (DiskP w7 w6.heap.size g7 vn7 vs7 (.slice none 0 0) (s.crash qa)) := Lib.hid d7
        have B7 := Lib.hid (B6.out.trans (kp_belowB q7 (by have := B6.out.size; omega)))
        clear q7 d7 c6
        go_wp2_with fail
        refine (size_any D7.out).mono ?_
        rintro e w' ⟨rfl, rfl⟩
        go_wp2_with fail
        refine (size_any C6.out).mono ?_
        rintro e w' ⟨rfl, rfl⟩
        go_wp2_with fail
        refine (read_any D7.out _ _).mono ?_
        rintro e w8 ⟨rfl, q8⟩
        have D8 := Lib.hid (D7.out.keep (kp_drewN q8) (fun _ _ h => h))
        have C8 := Lib.hid (C6.out.keep (kp_drewN q8) (fun _ _ h => h))
        have B8 := Lib.hid (B7.out.trans (kp_belowB (kp_drewN q8) (by have := B7.out.size; omega)))
        clear q8
        go_wp2_with fail
        refine (read_any C8.out _ _).mono ?_
        rintro e w9 ⟨rfl, q9⟩
        have D9 := Lib.hid (D8.out.keep (kp_drewN q9) (fun _ _ h => h))
        have B9 := Lib.hid (B8.out.trans (kp_belowB (kp_drewN q9) (by have := B8.out.size; omega)))
        clear q9
        go_wp2_with fail
        refine (calls_at D9.out 0 rfl).mono ?_
        rintro e w' ⟨rfl, rfl⟩
        go_wp2_with fail
        go_ret
        exact ⟨rfl, B9.out⟩

end Go.Proofs.Yteekoocbdapciaa
