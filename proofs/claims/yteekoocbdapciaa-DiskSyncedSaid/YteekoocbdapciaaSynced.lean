/- Walk: the law DiskSynced. -/
import Derived.Test.YteekoocbdapciaaOwn
import Derived.Test.YteekoocbdapciaaReads
namespace Go.Proofs.Yteekoocbdapciaa
open Go.RowKit Go.Lib

theorem now_le {s : DS} (h : s.now.length ≤ 500) (o n : Int) (t : ByteArray) : (s.writeS (whereI o) (longB t n)).now.length ≤ 500 := by
  have hz := longB_size t n
  unfold DS.writeS
  split
  · exact h
  · rename_i hb
    split
    · exact h
    · have hb2 : badW (whereI o) (longB t n) = false := by simpa using hb
      simp only [badW, Bool.or_eq_false_iff, decide_eq_false_iff_not] at hb2
      have hw : whereI o ≤ 299 := by
        unfold whereI at hb2 ⊢
        split
        · rename_i ho
          rw [if_pos ho] at hb2
          omega
        · omega
      show (putL s.now (whereI o).toNat (longB t n).data.toList).length ≤ 500
      rw [putL_length, ← size_eq]
      omega

def YRel (_W w0 : World) (x n M : Nat) (i : Value) (wr : World) : Prop :=
  ∃ (k : Nat) (s : DS) (r : RS), i = .int .i64 (k : Nat) ∧ k ≤ n ∧ k ≤ M ∧ DeskAt wr w0.heap.size x s r ∧ Same s r ∧ s.later.length ≤ 200 * k ∧ s.power = 0 ∧ s.now.length ≤ 500 ∧ Below w0.heap.size w0 wr

/-- What was there before the Sync survives a crash. -/
theorem synced_survives {s : DS} (hp : s.power = 0) (q : List Int) (k : Int) (t : ByteArray) (hk : 0 ≤ k) (h1 : s.now.length + k + t.size ≤ 16777216) :
    readL ((s.syncS.writeS (s.now.length + k) t).crash q).now 0 s.now.length = readL s.now 0 s.now.length := by
  have hp2 : s.syncS.power = 0 := by rw [syncS_power]; exact hp
  rw [writeS_ok hp2 (by omega) (by omega), syncS_ok hp]
  show readL (crashF q 0 ([] ++ partsF t.size ((s.now.length : Int) + k).toNat t) s.now) 0 s.now.length = _
  have hpo : ∀ p ∈ ([] ++ partsF t.size ((s.now.length : Int) + k).toNat t), s.now.length ≤ p.1 := by
    intro p hp
    have := partsF_off _ _ _ p (by simpa using hp)
    omega
  exact readL_take _ _ _ (crash_take q s.now.length _ 0 s.now hpo (Nat.le_refl _)) (Nat.le_refl _) (crash_len q _ 0 s.now)

set_option maxHeartbeats 4000000 in
theorem synced_walk (W : World) (v va : Value) (t0 t1 : Int) (L : List (Int × Int × Int × ByteArray)) (qa : List Int) (hv : Acts W v L) (ha : Ints W va qa) (hqa : qa.length ≤ 9223372036854775807) :
    Calls Try.prog 6 #[v, .agg #[.int .i64 t0, .int .i64 t1], va] W fun e w' => e = .returned (.bool true) ∧ Below W.heap.size W w' := by
  obtain ⟨hn, hts, sp, cap, rfl, hc⟩ := hv
  obtain ⟨k0, hk0⟩ : ∃ k, k = t0 % 100 := ⟨_, rfl⟩
  obtain ⟨k1, hk1⟩ : ∃ k : Nat, t1 % 150 = (k : Int) := ⟨(t1 % 150).toNat, by omega⟩
  have l0 : 0 ≤ k0 := by omega
  have l1 : k0 < 100 := by omega
  have l2 : k1 < 150 := by omega
  have HK0 := Lib.hid hk0.symm
  have HK1 := Lib.hid hk1
  have HC := Lib.hid hc
  have HT := Lib.hid hts
  have HA := Lib.hid ha
  clear hc hts ha hk0 hk1
  have tok1 : True := trivial
  have tok2 : True := trivial
  go_enter Try.func6, Try.ntmps6
  go_wp2_with fail
  obtain ⟨w0, hw0⟩ : ∃ w0, w0 = W.alloc (.cells #[.int .i64 t0, .int .i64 t1] 42) := ⟨_, rfl⟩
  have QB : Hid (w0.heap[W.heap.size]? = some (.cells #[.int .i64 t0, .int .i64 t1] 42 (0, 0))) := by rw [hw0]; exact heap_alloc_new W _
  have BW : Hid (Below W.heap.size W w0) := by rw [hw0]; exact (Kp.alloc (fun _ => False) W _).belowS
  rw [← hw0]
  clear hw0
  refine (sanity_any _).mono ?_
  rintro e w1 ⟨rfl, q1⟩
  have K1 := Lib.hid (q1)
  clear q1
  go_wp2_with fail
  refine (new_D w1).mono ?_
  rintro e w2 ⟨rfl, d2, q2⟩
  have K2 := Lib.hid (K1.out.trans q2 fun _ h => h.elim)
  have D2 := Lib.hid (d2.down K1.out.size)
  clear q2 d2
  go_wp2_with fail
  refine (rnew_R w2).mono ?_
  rintro e w3 ⟨rfl, r3, q3⟩
  have D3 := D2.out.keep q3 (fun _ _ h => h)
  have R3 := r3.down K2.out.size
  have K3 := Lib.hid (K2.out.trans q3 fun _ h => h.elim)
  have x3 := newDesk D3 R3
  have K4 := Lib.hid ((K3.out.trans (Kp.alloc (fun _ => False) w3 (.cells #[.pointer (some ⟨w1.heap.size, 0, none⟩), .pointer (some ⟨w2.heap.size, 0, none⟩)] 30)) fun _ h => h.elim).belowS)
  have X4 : Hid (DeskAt (w3.alloc (.cells #[.pointer (some ⟨w1.heap.size, 0, none⟩), .pointer (some ⟨w2.heap.size, 0, none⟩)] 30)) w0.heap.size w3.heap.size fresh rfresh) := Lib.hid ⟨_, _, _, _, _, _, x3⟩
  clear q3 r3 D3 R3 x3
  go_wp2_with fail
  go_loopw [9] (fun i wr => YRel W w0 w3.heap.size L.length 10 i wr) (fun i _ => L.length - (intOf i).toNat)
  case atStart => exact ⟨0, _, _, rfl, by omega, by omega, X4.out, Same.fresh, by simp [fresh], rfl, by simp [fresh], K4.out⟩
  case round =>
    obtain ⟨k, s, r, rfl, hk, hk15, hX, hS, hl, hpw, hnw, hb⟩ := hrel
    have HX := Lib.hid hX
    have HS := Lib.hid hS
    have HB := Lib.hid hb
    have HW := Lib.hid (BW.out.trans (hb.mono BW.out.size))
    have HP := Lib.hid hpw
    have HN := Lib.hid hnw
    clear hX hS hb hpw hnw
    by_cases h12 : k < L.length ∧ k < 10
    · obtain ⟨h1, h2⟩ := h12
      obtain ⟨b, off, hsp, hcell⟩ := HC.out (by omega)
      subst hsp
      obtain ⟨c0, c1, c2, c3⟩ := hcell k h1
      have hbl := World.block_lt_of_cell? W _ c0
      have g1 := (HW.out.drew.cell (p := ⟨b, off + k * 4 + 1, none⟩) hbl).trans c1
      have g2 := (HW.out.drew.cell (p := ⟨b, off + k * 4 + 2, none⟩) hbl).trans c2
      have g3 := (HW.out.drew.cell (p := ⟨b, off + k * 4 + 3, none⟩) hbl).trans c3
      have ht := HT.out _ (List.getElem_mem h1)
      have hb0 : b < w0.heap.size := Nat.lt_of_lt_of_le hbl BW.out.size
      clear hcell c0 c1 c2 c3
      obtain ⟨a, ha⟩ : ∃ a, a = L[k] := ⟨_, rfl⟩
      rw [← ha] at g1 g2 g3 ht
      clear ha
      obtain ⟨bd, bm, vn, vs, vl, vp, h⟩ := HX.out
      have H := Lib.hid (h.keep (Kp.drew _ _))
      clear h
      go_wp2_with fail
      go_region_held3 (fun w' => w'.cell? ⟨b, off + k * 4 + 1, none⟩ = some (.int .i64 a.2.1) ∧ w'.cell? ⟨b, off + k * 4 + 2, none⟩ = some (.int .i64 a.2.2.1) ∧ w'.cell? ⟨b, off + k * 4 + 3, none⟩ = some (.string a.2.2.2))
        (first | go_keep | exact hS5)
        (first | (go_at_call 16; refine (do_write H.out HS.out 0 (a.2.1.tmod 4) a.2.2.1 a.2.2.2 (by decide) ht (by omega)).mono ?_; rintro e w5 ⟨rfl, hd5, hb5⟩; have hS5 : w5.cell? ⟨b, off + k * 4 + 1, none⟩ = some (.int .i64 a.2.1) ∧ w5.cell? ⟨b, off + k * 4 + 2, none⟩ = some (.int .i64 a.2.2.1) ∧ w5.cell? ⟨b, off + k * 4 + 3, none⟩ = some (.string a.2.2.2) := ⟨(hb5.cell (p := ⟨b, off + k * 4 + 1, none⟩) hb0).trans g1, (hb5.cell (p := ⟨b, off + k * 4 + 2, none⟩) hb0).trans g2, (hb5.cell (p := ⟨b, off + k * 4 + 3, none⟩) hb0).trans g3⟩))
      have H5 := Lib.hid hd5
      have B5 := Lib.hid (HB.out.drew.trans hb5)
      have hz := longB_size a.2.2.2 a.2.2.1
      have hwl := writeS_len s (whereI (a.2.1.tmod 4)) (longB a.2.2.2 a.2.2.1)
      have HZ := Lib.hid (show (s.writeS (whereI (a.2.1.tmod 4)) (longB a.2.2.2 a.2.2.1)).later.length ≤ 200 * (k + 1) by omega)
      clear hd5 hb5 hS5 g1 g2 g3 hz hwl H
      go_wp2_with fail
      go_roundw
      case rel => exact ⟨k + 1, _, _, by simp, by omega, by omega, H5.out, (HS.out.write _ _).1, HZ.out, by rw [writeS_power]; exact HP.out, now_le HN.out _ _ _, B5.out⟩
      case measure => simp [intOf]; omega
    · have hk2 : L.length ≤ k ∨ 10 ≤ k := by omega
      have HK2 := Lib.hid hk2
      obtain ⟨bd, bm, vn, vs, vl, vp, h⟩ := HX.out
      have H := Lib.hid h
      obtain ⟨x0, x1⟩ := h.x01
      obtain ⟨N, hN⟩ : ∃ N, N = s.now.length := ⟨_, rfl⟩
      have hN5 : N ≤ 500 := by rw [hN]; exact HN.out
      obtain ⟨X, hXr⟩ : ∃ X, X = readL s.now 0 N := ⟨_, rfl⟩
      have e1 : s.syncS.now = s.now := by rw [syncS_ok HP.out]; rfl
      have V1 := Lib.hid (syncC_ok HP.out)
      have V2 : Hid (s.syncS.now.length = N) := Lib.hid (by rw [e1]; exact hN.symm)
      have V3 : Hid (readL s.syncS.now 0 N = X) := Lib.hid (by rw [e1]; exact hXr.symm)
      have p1 : s.syncS.power = 0 := by rw [syncS_power]; exact HP.out
      have e2 : (repB 121 k1).size = k1 := repB_size _ _
      have V4 : Hid (s.syncS.writeC ((N : Int) + k0) (repB 121 k1) = 0) := Lib.hid (writeC_ok p1 (by omega) (by omega))
      have V5 : Hid (readL ((s.syncS.writeS ((N : Int) + k0) (repB 121 k1)).crash qa).now 0 N = X) := Lib.hid (by rw [hXr, hN]; exact synced_survives HP.out qa k0 _ l0 (by rw [← hN]; omega))
      have n2 : (s.syncS).later.length = 0 := by rw [syncS_ok HP.out]; rfl
      have n3 := writeS_len s.syncS ((N : Int) + k0) (repB 121 k1)
      have hwr : IntKind.i64.wrap ((N : Int) + k0) = (N : Int) + k0 := IntWalk.i64_in _ (by omega)
      clear h h12 hk2 hN hXr e1
      by_cases h1 : k < L.length
      all_goals
        have h3 := HK2.out
        go_wp2_with fail
        refine (sync_at H.out.d 0 V1.out).mono ?_
        rintro e w5 ⟨rfl, a1, a2, a3, d5, q5, f5⟩
        have H5 := Lib.hid (H.out.disk q5 d5)
        have B5 := Lib.hid (HB.out.trans (H.out.belowD q5))
        clear d5 q5 f5 x0 x1
        obtain ⟨x0, x1⟩ := H5.out.x01
        go_wp2_with fail
        refine (size_at H5.out.d N V2.out).mono ?_
        rintro e w' ⟨rfl, rfl⟩
        go_wp2_with fail
        refine (read_at H5.out.d 0 N X V3.out).mono ?_
        rintro e w6 ⟨rfl, q6⟩
        have H6 := Lib.hid ((H5.out.keep (kp_drewN q6)).keep (Kp.drew _ _))
        have B6 := Lib.hid (B5.out.trans (H5.out.below0 (kp_drewN q6))).drew
        have hq := ((B6.out.block W.heap.size (Array.getElem?_eq_some_iff.1 QB.out).1).trans QB.out)
        have c0 := cell_of_row w6.drew W.heap.size 0 _ _ _ hq
        have c1 := cell_of_row w6.drew W.heap.size 1 _ _ _ hq
        clear q6 x0 x1 hq
        obtain ⟨x0, x1⟩ := H6.out.x01
        go_wp2_with fail
        go_region_held3 (fun w' => w'.cell? ⟨w3.heap.size, 0, none⟩ = some (.pointer (some ⟨bd, 0, none⟩)) ∧ w'.cell? ⟨W.heap.size, 0, none⟩ = some (.int .i64 t0) ∧ w'.cell? ⟨W.heap.size, 1, none⟩ = some (.int .i64 t1))
          (first | go_keep | exact hS7)
          (first
            | (go_at_call 22; have _t := tok1; clear tok1 _t; refine (mod_any t0 100 _ (by omega) (by omega)).mono ?_; rintro e w' ⟨rfl, rfl⟩; rw [HK0.out])
            | (go_at_call 22; have _t := tok2; clear tok2 _t; refine (mod_any t1 150 _ (by omega) (by omega)).mono ?_; rintro e w' ⟨rfl, rfl⟩; rw [HK1.out])
            | (go_at_call 26; refine (repeated_any 121 k1 (by omega) _).mono ?_; rintro e w7 ⟨rfl, q7⟩; have h7 := H6.out.keep q7; have b7 := B6.out.trans (H6.out.below0 q7); have hS7 := (⟨h7.x01.1, cell_of_row w7 W.heap.size 0 _ _ _ ((b7.block W.heap.size (Array.getElem?_eq_some_iff.1 QB.out).1).trans QB.out), cell_of_row w7 W.heap.size 1 _ _ _ ((b7.block W.heap.size (Array.getElem?_eq_some_iff.1 QB.out).1).trans QB.out)⟩ : w7.cell? ⟨w3.heap.size, 0, none⟩ = some (.pointer (some ⟨bd, 0, none⟩)) ∧ w7.cell? ⟨W.heap.size, 0, none⟩ = some (.int .i64 t0) ∧ w7.cell? ⟨W.heap.size, 1, none⟩ = some (.int .i64 t1)))
            | (go_at_call 27; refine (write_at h7.d ((N : Int) + k0) (repB 121 k1) 0 V4.out (by omega) (by omega)).mono ?_; rintro e w8 ⟨rfl, a4, a5, a6, d8, q8, f8⟩; have h8 := h7.disk q8 d8; have hS7 := (⟨h8.x01.1, cell_of_row w8 W.heap.size 0 _ _ _ (((b7.trans (h7.belowD q8)).block W.heap.size (Array.getElem?_eq_some_iff.1 QB.out).1).trans QB.out), cell_of_row w8 W.heap.size 1 _ _ _ (((b7.trans (h7.belowD q8)).block W.heap.size (Array.getElem?_eq_some_iff.1 QB.out).1).trans QB.out)⟩ : w8.cell? ⟨w3.heap.size, 0, none⟩ = some (.pointer (some ⟨bd, 0, none⟩)) ∧ w8.cell? ⟨W.heap.size, 0, none⟩ = some (.int .i64 t0) ∧ w8.cell? ⟨W.heap.size, 1, none⟩ = some (.int .i64 t1))))
        have H8 := Lib.hid h8
        have B8 := Lib.hid (b7.trans (h7.belowD q8))
        clear h7 h8 b7 hS7 q7 q8 d8 f8 x0 x1 c0 c1 H6 B6
        obtain ⟨x0, x1⟩ := H8.out.x01
        go_wp2_with fail
        refine (crash_any H8.out.d va qa (HA.out.below (BW.out.trans (B8.out.mono BW.out.size))) (by omega) hqa).mono ?_
        rintro e w9 ⟨g9, vn9, vs9, rfl, d9, q9⟩
        have D9 := Lib.hid d9
        have B9 := Lib.hid (B8.out.trans (H8.out.below0 q9))
        clear d9 q9 x0 x1
        go_wp2_with fail
        refine (read_at D9.out 0 N X V5.out).mono ?_
        rintro e w10 ⟨rfl, q10⟩
        have B10 := Lib.hid (B9.out.trans (kp_belowB (kp_drewN q10) B9.out.size))
        clear q10
        go_wp2_with fail
        go_ret
        exact ⟨rfl, BW.out.trans (B10.out.mono BW.out.size)⟩

end Go.Proofs.Yteekoocbdapciaa
