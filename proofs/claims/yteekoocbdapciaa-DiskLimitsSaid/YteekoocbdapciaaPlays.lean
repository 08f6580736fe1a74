/- Walk: the law DiskPlays. -/
import Derived.Test.YteekoocbdapciaaS1
namespace Go.Proofs.Yteekoocbdapciaa
open Go.RowKit Go.Lib

/-- The acts that came in, in the memory of the start. -/
def Acts (W : World) (v : Value) (L : List (Int × Int × Int × ByteArray)) : Prop :=
  L.length ≤ 9223372036854775807 ∧ (∀ a ∈ L, a.2.2.2.size ≤ 9223372036854775807) ∧ ∃ sp cap, v = .slice sp L.length cap ∧ (0 < L.length → ∃ b off, sp = some ⟨b, off, none⟩ ∧ ∀ j (h : j < L.length),
    W.cell? ⟨b, off + j * 4, none⟩ = some (.int .i64 L[j].1) ∧ W.cell? ⟨b, off + j * 4 + 1, none⟩ = some (.int .i64 L[j].2.1) ∧ W.cell? ⟨b, off + j * 4 + 2, none⟩ = some (.int .i64 L[j].2.2.1) ∧ W.cell? ⟨b, off + j * 4 + 3, none⟩ = some (.string L[j].2.2.2))

theorem newDesk {w : World} {B bd bm : Nat} {vn vs vl vp : Value} {s : DS} {r : RS} (hd : DiskP w B bd vn vs vl s) (hr : RefP w B bm vp r) :
    Env (w.alloc (.cells #[.pointer (some ⟨bd, 0, none⟩), .pointer (some ⟨bm, 0, none⟩)] 30)) B w.heap.size bd bm vn vs vl vp s r :=
  ⟨by have := hd.hB; have := hd.lt; omega, heap_alloc_new w _, hd.keep (Kp.alloc (fun _ => False) w _) (fun _ _ h => h), hr.keep (Kp.alloc (fun _ => False) w _) (fun _ _ h => h)⟩

def rfresh : RS := ⟨ByteArray.empty, ByteArray.empty, [], 0, 0, false⟩

theorem rnew_R (w : World) : Calls Try.prog 15 #[] w fun e w' => e = .returned (.pointer (some ⟨w.heap.size, 0, none⟩)) ∧ RefP w' w.heap.size w.heap.size (.slice none 0 0) rfresh ∧ Kp (fun _ => False) w w' := by
  refine (rnew_any w).mono ?_
  rintro e w' ⟨rfl, rfl⟩
  exact ⟨rfl, ⟨Nat.le_refl _, heap_alloc_new w _, ⟨rfl, .inl ⟨rfl, rfl⟩⟩, by simp [rfresh], by simp [rfresh], (fun p hp => by cases hp)⟩, Kp.alloc _ _ _⟩

theorem Kp.belowS {w w' : World} (h : Kp (fun _ => False) w w') : Below w.heap.size w w' := h.below (fun _ h => h.elim) (Nat.le_refl _)

def PRel (W : World) (x n : Nat) (i : Value) (wr : World) : Prop :=
  ∃ (k : Nat) (s : DS) (r : RS), i = .int .i64 (k : Nat) ∧ k ≤ n ∧ k ≤ 40 ∧ DeskAt wr W.heap.size x s r ∧ Same s r ∧ s.later.length ≤ 200 * k ∧ Below W.heap.size W wr

set_option maxHeartbeats 2000000 in
theorem plays_walk (W : World) (v : Value) (L : List (Int × Int × Int × ByteArray)) (hv : Acts W v L) :
    Calls Try.prog 3 #[v] W fun e w' => e = .returned (.bool true) ∧ Below W.heap.size W w' := by
  obtain ⟨hn, hts, sp, cap, rfl, hc⟩ := hv
  have HC := Lib.hid hc
  have HT := Lib.hid hts
  clear hc hts
  go_enter Try.func3, Try.ntmps3
  go_wp2_with fail
  refine (sanity_any W).mono ?_
  rintro e w1 ⟨rfl, q1⟩
  have K1 := Lib.hid q1
  clear q1
  go_wp2_with fail
  refine (new_D w1).mono ?_
  rintro e w2 ⟨rfl, d2, q2⟩
  have K2 := Lib.hid (K1.out.trans q2 fun _ h => h.elim)
  have D2 := Lib.hid (d2.down K1.out.size)
  clear q2 d2
  go_wp2_with fail
  refine (rnew_R w2).mono ?_
  rintro e w3 ⟨rfl, r3, q3⟩
  have D3 := D2.out.keep q3 (fun _ _ h => h)
  have R3 := r3.down K2.out.size
  have K3 := Lib.hid (K2.out.trans q3 fun _ h => h.elim)
  have x3 := newDesk D3 R3
  have K4 := Lib.hid ((K3.out.trans (Kp.alloc (fun _ => False) w3 (.cells #[.pointer (some ⟨w1.heap.size, 0, none⟩), .pointer (some ⟨w2.heap.size, 0, none⟩)] 30)) fun _ h => h.elim).belowS)
  have X4 : Hid (DeskAt (w3.alloc (.cells #[.pointer (some ⟨w1.heap.size, 0, none⟩), .pointer (some ⟨w2.heap.size, 0, none⟩)] 30)) W.heap.size w3.heap.size fresh rfresh) := Lib.hid ⟨_, _, _, _, _, _, x3⟩
  clear q3 r3 D3 R3 x3
  go_wp2_with fail
  go_loopw [5] (fun i wr => PRel W w3.heap.size L.length i wr) (fun i _ => L.length - (intOf i).toNat)
  case atStart => exact ⟨0, _, _, rfl, by omega, by omega, X4.out, Same.fresh, by simp [fresh], K4.out⟩
  case round =>
    obtain ⟨k, s, r, rfl, hk, hk40, hX, hS, hl, hb⟩ := hrel
    have HX := Lib.hid hX
    have HS := Lib.hid hS
    have HB := Lib.hid hb
    clear hX hS hb
    by_cases h1 : k < L.length
    · by_cases h2 : k < 40
      · obtain ⟨b, off, hsp, hcell⟩ := HC.out (by omega)
        subst hsp
        obtain ⟨c0, c1, c2, c3⟩ := hcell k h1
        have hbl := World.block_lt_of_cell? W _ c0
        have g0 := (HB.out.cell (p := ⟨b, off + k * 4, none⟩) hbl).trans c0
        have g1 := (HB.out.cell (p := ⟨b, off + k * 4 + 1, none⟩) hbl).trans c1
        have g2 := (HB.out.cell (p := ⟨b, off + k * 4 + 2, none⟩) hbl).trans c2
        have g3 := (HB.out.cell (p := ⟨b, off + k * 4 + 3, none⟩) hbl).trans c3
        have ht := HT.out _ (List.getElem_mem h1)
        clear hcell c0 c1 c2 c3
        obtain ⟨a, ha⟩ : ∃ a, a = L[k] := ⟨_, rfl⟩
        rw [← ha] at g0 g1 g2 g3 ht
        clear ha
        go_wp2_with fail
        refine (do_any HX.out HS.out _ _ _ _ ht (by omega)).mono ?_
        rintro e w5 ⟨rfl, ⟨s', r', hd5, hs5, hl5⟩, hb5⟩
        obtain ⟨bd5, bm5, vn5, vs5, vl5, vp5, h5⟩ := hd5
        obtain ⟨x0, x1⟩ := h5.x01
        have H5 := Lib.hid h5
        have HS5 := Lib.hid hs5
        have HB5 := Lib.hid (HB.out.trans hb5)
        clear h5 hs5 hb5 g0 g1 g2 g3
        go_wp2_with fail
        go_quiet ((first
          | (go_at_call 17; exact quiet_eq (size_any (H5.out.keep (Kp.drewN _ _ _)).d))
          | (go_at_call 18; exact quiet_eq (rsize_same (H5.out.keep (Kp.drewN _ _ _)).r HS5.out))
          | (go_at_call 19; exact quiet_eq (calls_any (H5.out.keep (Kp.drewN _ _ _)).d))
          | (go_at_call 20; exact quiet_eq (rcalls_same (H5.out.keep (Kp.drewN _ _ _)).r HS5.out))))
        go_wp2_with fail
        go_roundw
        case rel => exact ⟨k + 1, s', r', by simp, by omega, by omega, ⟨_, _, _, _, _, _, H5.out.keep (Kp.drewN _ _ _)⟩, HS5.out, by omega, HB5.out.trans ((Kp.drewN (fun _ => False) w5 _).below (fun _ h => h.elim) (by have := HB5.out.size; omega))⟩
        case measure => simp [intOf]; omega
      · have hk4 : k = 40 := by omega
        clear hk4
        go_wp2_with fail
        refine (same_any HX.out HS.out).mono ?_
        rintro e w5 ⟨rfl, q5⟩
        have B5 := Lib.hid (HB.out.trans ((kp_drewN q5).below (fun _ h => h.elim) (by have := HB.out.size; omega)))
        clear q5
        go_wp2_with fail
        go_ret
        exact ⟨rfl, B5.out⟩
    · go_wp2_with fail
      refine (same_any HX.out HS.out).mono ?_
      rintro e w5 ⟨rfl, q5⟩
      have B5 := Lib.hid (HB.out.trans ((kp_drewN q5).below (fun _ h => h.elim) (by have := HB.out.size; omega)))
      clear q5
      go_wp2_with fail
      go_ret
      exact ⟨rfl, B5.out⟩

end Go.Proofs.Yteekoocbdapciaa
