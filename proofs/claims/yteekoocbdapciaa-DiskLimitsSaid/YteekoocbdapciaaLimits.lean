/- Walk: the law DiskLimits. -/
import Derived.Test.YteekoocbdapciaaC1
namespace Go.Proofs.Yteekoocbdapciaa
open Go.RowKit Go.Lib

theorem write_same {w : World} {B b : Nat} {vp : Value} {s : DS} {r : RS} (h : RefP w B b vp r) (hs : Same s r) (off : Int) (t : ByteArray) (ht : t.size ≤ 140737488355328) (hl : s.later.length ≤ 1000000000) :
    Calls Try.prog 32 #[.pointer (some ⟨b, 0, none⟩), .int .i64 off, .string t] w (RPost B b (footR b vp) w (.int .i64 (s.writeC off t)) (r.writeS off t)) := by
  rw [← (hs.write off t).2]
  exact write_R h off t ht (by rw [hs.parts]; exact hl)

theorem mod_kp (x m : Int) (w : World) (r : Int) (hr : x % m = r) (hm : 1 ≤ m) (hm2 : m ≤ 1000000) :
    Calls Try.prog 22 #[.int .i64 x, .int .i64 m] w fun e w' => e = .returned (.int .i64 r) ∧ w = w' := by rw [← hr]; exact mod_any x m w hm hm2

theorem rsize_at {w : World} {B b : Nat} {vp : Value} {s : RS} (h : RefP w B b vp s) (n : Nat) (hn : s.now.size = n) :
    Calls Try.prog 18 #[.pointer (some ⟨b, 0, none⟩)] w fun e w' => e = .returned (.int .i64 n) ∧ w = w' := by rw [← hn]; exact rsize_any h

/-- A Write that is refused. -/
theorem write_bad (w : World) (b : Nat) (off : Int) (t : ByteArray) (ht : t.size ≤ 140737488355328) (h : badW off t = true) :
    Calls Try.prog 27 #[.pointer (some ⟨b, 0, none⟩), .int .i64 off, .string t] w fun e w' => e = .returned (.int .i64 1) ∧ w = w' := by
  simp only [badW, Bool.or_eq_true, decide_eq_true_eq] at h
  by_cases h0 : off < 0
  · exact write_neg w b off t h0
  · exact write_far w b off t (by omega) (by omega) (by omega)

theorem fill_now (m : Nat) (hm : m < 500) : (fresh.writeS (m : Int) ⟨#[]⟩).now = List.replicate m 0 := by
  rw [writeS_ok rfl (by omega) (by have e : (ByteArray.mk #[]).size = 0 := rfl; omega)]
  show putL [] (m : Int).toNat [] = _
  simp [putL, splice]

theorem fill_read (m : Nat) (hm : m < 500) : readL (fresh.writeS (m : Int) ⟨#[]⟩).now 0 ((m : Int) + 1) = repB 0 m := by
  rw [fill_now m hm]
  unfold readL repB
  by_cases h0 : m = 0
  · subst h0; simp; rfl
  · rw [if_neg (by simp; omega)]
    simp

theorem wpAnyH_to {P : Program} {md : Region.Mode} {ops : Array Oper} {Q : Exit → Act → World → Prop} {S S' : World → Prop} (h : ∀ w, S' w → S w) : ∀ (fuel : Nat) (listed : Array Bool) (a : Act) (w : World), wpAnyH P md ops Q S' fuel listed a w → wpAnyH P md ops Q S fuel listed a w
  | 0, _, _, _, h0 => h0
  | fuel + 1, _, _, _, h0 => ⟨h0.1, fun i hi => wpOp_mono (fun a' w' h' => ⟨h _ h'.1, wpAnyH_to h fuel _ a' w' h'.2⟩) (h0.2 i hi)⟩

set_option maxRecDepth 100000 in
set_option maxHeartbeats 8000000 in
theorem limits_walk (W : World) (far n off : Int) :
    Calls Try.prog 11 #[.int .i64 far, .int .i64 n, .int .i64 off] W fun e w' => e = .returned (.bool true) ∧ Below W.heap.size W w' := by
  obtain ⟨k, hk⟩ : ∃ k : Nat, n % 70 = (k : Int) := ⟨(n % 70).toNat, by omega⟩
  obtain ⟨j, hj⟩ : ∃ j : Int, far % 7 = j := ⟨_, rfl⟩
  obtain ⟨m, hm⟩ : ∃ m : Nat, off % 500 = (m : Int) := ⟨(off % 500).toNat, by omega⟩
  have l0 : k < 70 := by omega
  have l1 : 0 ≤ j := by omega
  have l2 : j < 7 := by omega
  have l3 : m < 500 := by omega
  have HK := Lib.hid hk
  have HJ := Lib.hid hj
  have HM := Lib.hid hm
  clear hk hj hm
  have hts : (repB 113 k).size = k := repB_size 113 k
  have ht1 : (repB 113 k).size ≤ 69 := by omega
  have ht2 : k ≤ (repB 113 k).size := by omega
  have HTS := Lib.hid hts
  obtain ⟨t, ht⟩ : ∃ t, t = repB 113 k := ⟨_, rfl⟩
  rw [← ht] at ht1 ht2 HTS
  have HT := Lib.hid ht.symm
  clear ht hts
  go_enter Try.func11, Try.ntmps11
  go_wp2_with fail
  refine (sanity_any _).mono ?_
  rintro e w1 ⟨rfl, q1⟩
  have K1 := Lib.hid (q1)
  clear q1
  go_wp2_with fail
  refine (new_D w1).mono ?_
  rintro e w2 ⟨rfl, d2, q2⟩
  have K2 := Lib.hid (K1.out.trans q2 fun _ h => h.elim)
  have D2 := Lib.hid (d2.down K1.out.size)
  clear q2 d2
  go_wp2_with fail
  refine (rnew_R w2).mono ?_
  rintro e w3 ⟨rfl, r3, q3⟩
  have D3 := D2.out.keep q3 (fun _ _ h => h)
  have R3 := r3.down K2.out.size
  have K3 := Lib.hid (K2.out.trans q3 fun _ h => h.elim)
  have x3 := newDesk D3 R3
  have K4 := Lib.hid ((K3.out.trans (Kp.alloc (fun _ => False) w3 (.cells #[.pointer (some ⟨w1.heap.size, 0, none⟩), .pointer (some ⟨w2.heap.size, 0, none⟩)] 30)) fun _ h => h.elim).belowS)
  have X4 : Hid (DeskAt (w3.alloc (.cells #[.pointer (some ⟨w1.heap.size, 0, none⟩), .pointer (some ⟨w2.heap.size, 0, none⟩)] 30)) W.heap.size w3.heap.size fresh rfresh) := Lib.hid ⟨_, _, _, _, _, _, x3⟩
  clear q3 r3 D3 R3 x3
  go_wp2_with fail
  refine (mod_kp n 70 _ k HK.out (by omega) (by omega)).mono ?_
  rintro e w' ⟨rfl, rfl⟩
  go_wp2_with fail
  refine (repS 113 k k rfl (by omega) _ 113 rfl).mono ?_
  rintro e w5 ⟨rfl, q5⟩
  rw [HT.out]
  have X5 := X4.out.keep q5
  have B5 := Lib.hid (K4.out.trans (kp_belowB q5 X4.out.sizeB))
  obtain ⟨bd, bm, vn, vs, vl, vp, h5⟩ := X5
  have H5 := Lib.hid h5
  clear h5 q5
  have H5d := H5.out.keep (Kp.drew _ _)
  obtain ⟨y0, y1⟩ := H5d.x01
  have hdl : (fresh.later).length ≤ 1000000000 := by simp [fresh]
  have hp0 : (t.size : Int) ≤ 69 := by omega
  obtain ⟨p, hp⟩ : ∃ p : Int, p = 16777216 - (t.size : Int) - 3 + j := ⟨_, rfl⟩
  have hw1 : IntKind.i64.wrap (16777216 - (t.size : Int)) = 16777216 - (t.size : Int) := IntWalk.i64_in _ (by omega)
  have hw2 : IntKind.i64.wrap (16777216 - (t.size : Int) - 3) = 16777216 - (t.size : Int) - 3 := IntWalk.i64_in _ (by omega)
  have hw3 : IntKind.i64.wrap (16777216 - (t.size : Int) - 3 + j) = p := by rw [hp]; exact IntWalk.i64_in _ (by omega)
  have HP := Lib.hid hp
  clear hp
  have hsame0 : Same fresh rfresh := Same.fresh
  go_wp2_with fail
  go_region_held3 (fun w' => w'.cell? ⟨w3.heap.size, 0, none⟩ = some (.pointer (some ⟨bd, 0, none⟩)) ∧ w'.cell? ⟨w3.heap.size, 1, none⟩ = some (.pointer (some ⟨bm, 0, none⟩)))
    (first | go_keep | exact hS6)
    (first
      | (go_at_call 22; (with_reducible refine (mod_kp far 7 _ j HJ.out (by omega) (by omega)).mono ?_); rintro e w' ⟨rfl, rfl⟩)
      | (go_at_call 27; (with_reducible refine (write_D H5d.d p t (by omega) hdl).mono ?_); rintro e w6 ⟨rfl, a1, a2, a3, d6, q6, f6⟩; have h6 := H5d.disk q6 d6; have hS6 := h6.x01))
  have H6 := Lib.hid h6
  have B6 := Lib.hid (B5.out.drew.trans (H5d.belowD q6))
  clear hS6 y0 y1 d6 q6 f6 h6
  have H6d := H6.out.keep (Kp.drew _ _)
  obtain ⟨y0, y1⟩ := H6d.x01
  go_wp2_with fail
  go_region_held3 (fun w' => w'.cell? ⟨w3.heap.size, 0, none⟩ = some (.pointer (some ⟨bd, 0, none⟩)) ∧ w'.cell? ⟨w3.heap.size, 1, none⟩ = some (.pointer (some ⟨bm, 0, none⟩)))
    (first | go_keep | exact hS7)
    (first
      | (go_at_call 22; (with_reducible refine (mod_kp far 7 _ j HJ.out (by omega) (by omega)).mono ?_); rintro e w' ⟨rfl, rfl⟩)
      | (go_at_call 32; (with_reducible refine (write_same H6d.r hsame0 p t (by omega) hdl).mono ?_); rintro e w7 ⟨rfl, a4, r7, q7, f7⟩; have h7 := H6d.ref q7 r7; have hS7 := h7.x01))
  have H7 := Lib.hid h7
  have B7 := Lib.hid (B6.out.drew.trans (H6d.belowR q7))
  clear hS7 y0 y1 r7 q7 f7 h7 hw1 hw2 hw3 H5d H6d
  go_wp2_with fail
  refine (new_D w7).mono ?_
  rintro e w8 ⟨rfl, d8, q8⟩
  have H8 := Lib.hid (H7.out.keep q8)
  have B8 := Lib.hid (B7.out.trans (H7.out.below0 q8))
  have D8 := Lib.hid d8
  have K8 := Lib.hid q8
  clear q8 d8
  go_wp2_with fail
  refine (mod_kp off 500 _ m HM.out (by omega) (by omega)).mono ?_
  rintro e w' ⟨rfl, rfl⟩
  have l3i : (m : Int) < 500 := by omega
  go_wp2_with fail
  refine (write_at D8.out (m : Int) ⟨#[]⟩ 0 (writeC_ok rfl (by omega) (by have e : (ByteArray.mk #[]).size = 0 := rfl; omega)) (by decide +kernel) (by simp [fresh])).mono ?_
  rintro e w9 ⟨rfl, a5, a6, a7, d9, q9, f9⟩
  have K9 := Lib.hid (D8.out.kpB q9 K8.out (Nat.le_refl _))
  have H9 := Lib.hid (H7.out.keep K9.out)
  have B9 := Lib.hid (B7.out.trans (H7.out.below0 K9.out))
  have D9 := Lib.hid d9
  clear q9 d9 f9
  obtain ⟨y0, y1⟩ := H9.out.x01
  have hsame : Same fresh rfresh := Same.fresh
  obtain ⟨N, hN⟩ : ∃ N, (fresh.writeS p t).now.length = N := ⟨_, rfl⟩
  have hM : (rfresh.writeS p t).now.size = N := by rw [size_eq, (hsame.write p t).1.now]; exact hN
  have HN := Lib.hid hN
  have HM := Lib.hid hM
  have HL := Lib.hid (show (fresh.writeS (m : Int) ⟨#[]⟩).now.length = m by rw [fill_now m l3]; simp)
  have HR := Lib.hid (fill_read m l3)
  clear hN hM
  obtain ⟨i0, hi, hz0, hz1, hz2⟩ := info_parts Try.info5
  have hmk : ∀ u : World, (Instr.makeSlice 56 (.int .i64 (m : Int)) (.int .i64 (m : Int))).run Try.prog u =
      .ok (.slice (some ⟨u.heap.size, 0, none⟩) m m) (u.alloc (.cells (madeCells #[.int .u8 0] m) 5)) := fun u => by
    have h := run_make (P := Try.prog) u 56 5 i0 (.int .u8 0) Try.underlying56 hi hz0 .i64 .i64 (m : Int) (m : Int) (by omega) (Int.le_refl _) (by rw [hz2]; omega) (by omega)
    simpa [hz1, Value.cells] using h
  have hm1 : IntKind.i64.wrap ((m : Int) + 1) = (m : Int) + 1 := IntWalk.i64_in _ (by omega)
  have hm2 : IntKind.i64.wrap (-1 - (m : Int)) = -1 - (m : Int) := IntWalk.i64_in _ (by omega)
  have hm3 : IntKind.i64.wrap (9223372036854775807 - (m : Int)) = 9223372036854775807 - (m : Int) := IntWalk.i64_in _ (by omega)
  have hcvt : ∀ wr : World, wr.heap[w9.heap.size]? = some (.cells (madeCells #[.int .u8 0] m) 5 (0, 0)) → (convert 56 9 (.slice (some ⟨w9.heap.size, 0, none⟩) m m)).run Try.prog wr = .ok (.string (repB 0 m)) wr := fun wr hwr => by
    have e1 : repB 0 m = strOfNums (List.replicate m 0) := by
      apply ba_ext
      rw [strOfNums_data]
      simp [repB]
    rw [e1]
    refine run_convert_bytes_arg _ 56 5 Try.underlying56 Try.underlying5 w9.heap.size 0 m m _ (by simp) ?_ 9 Try.underlying9
    intro i hi
    rw [Nat.zero_add, cell_of_row _ _ _ _ _ _ hwr]
    have := madeCells_zeros m
    rw [← Array.getElem?_toList, this]
    simp [hi, List.getD]
  have HC := Lib.hid hcvt
  have Y0 := Lib.hid y0
  have Y1 := Lib.hid y1
  clear hi hz0 hz1 hz2 hsame hcvt y0 y1
  go_wp2_with fail
  have hb1 : badW (-1 - (m : Int)) ⟨#[]⟩ = true := by simp [badW]; omega
  have hb2 : badW (9223372036854775807 - (m : Int)) ⟨#[97, 98]⟩ = true := by simp [badW]; omega
  have HB1 := Lib.hid hb1
  have HB2 := Lib.hid hb2
  clear hb1 hb2
  have m0 : (m : Int) < 500 := by omega
  refine wp_region_held_drew (S := Kp (fun _ => False) w9) (by kernel_rfl) (Kp.drew _ _) (fun hHeld => ?_)
  refine wpAnyH_take (i := 0) (v := ?v1) rfl (by kernel_rfl) (by kernel_rfl) (by kernel_rfl) (fun _ _ _ h => h) (Or.inl ⟨by rfl, ?y1⟩) (by assumption) ?r1
  case y1 =>
    intro w hSw
    clear hSw
    go_simp
    with_reducible rfl
  simp only [Act.put, List.getElem_toArray, List.getElem_cons_succ, List.getElem_cons_zero, List.setIfInBounds_toArray, List.set_cons_zero, List.set_cons_succ]
  refine wpAnyH_take (i := 1) (v := ?v2) rfl (by kernel_rfl) (by kernel_rfl) (by kernel_rfl) (fun _ _ _ h => h) (Or.inl ⟨by rfl, ?y2⟩) (by assumption) ?r2
  case y2 =>
    intro w hSw
    clear hSw
    go_simp
    with_reducible rfl
  simp only [Act.put, List.getElem_toArray, List.getElem_cons_succ, List.getElem_cons_zero, List.setIfInBounds_toArray, List.set_cons_zero, List.set_cons_succ]
  refine wpAnyH_take (i := 2) (v := ?v3) rfl (by kernel_rfl) (by kernel_rfl) (by kernel_rfl) (fun _ _ _ h => h) (Or.inl ⟨by rfl, ?y3⟩) (by assumption) ?r3
  case y3 =>
    intro w hSw
    clear hSw
    go_simp
    with_reducible rfl
  simp only [Act.put, List.getElem_toArray, List.getElem_cons_succ, List.getElem_cons_zero, List.setIfInBounds_toArray, List.set_cons_zero, List.set_cons_succ]
  refine wpAnyH_take (i := 3) (v := ?v4) rfl (by kernel_rfl) (by kernel_rfl) (by kernel_rfl) (fun _ _ _ h => h) (Or.inl ⟨by rfl, ?y4⟩) (by assumption) ?r4
  case y4 =>
    intro w hSw
    clear hSw
    go_simp
    with_reducible rfl
  simp only [Act.put, List.getElem_toArray, List.getElem_cons_succ, List.getElem_cons_zero, List.setIfInBounds_toArray, List.set_cons_zero, List.set_cons_succ]
  refine wpAnyH_take (i := 4) (v := ?v5) rfl (by kernel_rfl) (by kernel_rfl) (by kernel_rfl) (fun _ _ _ h => h) (Or.inl ⟨by rfl, ?y5⟩) (by assumption) ?r5
  case y5 =>
    intro w hSw
    clear hSw
    go_simp
    with_reducible rfl
  simp only [Act.put, List.getElem_toArray, List.getElem_cons_succ, List.getElem_cons_zero, List.setIfInBounds_toArray, List.set_cons_zero, List.set_cons_succ]
  refine wpAnyH_take (i := 5) (v := ?v6) rfl (by kernel_rfl) (by kernel_rfl) (by kernel_rfl) (fun _ _ _ h => h) (Or.inl ⟨by rfl, ?y6⟩) (by assumption) ?r6
  case y6 =>
    intro w hSw
    clear hSw
    go_simp
    with_reducible rfl
  simp only [Act.put, List.getElem_toArray, List.getElem_cons_succ, List.getElem_cons_zero, List.setIfInBounds_toArray, List.set_cons_zero, List.set_cons_succ]
  refine wpAnyH_take (i := 6) (v := ?v7) rfl (by kernel_rfl) (by kernel_rfl) (by kernel_rfl) (fun _ _ _ h => h) (Or.inl ⟨by rfl, ?y7⟩) (by assumption) ?r7
  case y7 =>
    intro w hSw
    clear hSw
    go_simp
    with_reducible rfl
  simp only [Act.put, List.getElem_toArray, List.getElem_cons_succ, List.getElem_cons_zero, List.setIfInBounds_toArray, List.set_cons_zero, List.set_cons_succ]
  refine wpAnyH_take (i := 7) (v := ?v8) rfl (by kernel_rfl) (by kernel_rfl) (by kernel_rfl) (fun _ _ _ h => h) (Or.inl ⟨by rfl, ?y8⟩) (by assumption) ?r8
  case y8 =>
    intro w hSw
    clear hSw
    go_simp
    with_reducible rfl
  simp only [Act.put, List.getElem_toArray, List.getElem_cons_succ, List.getElem_cons_zero, List.setIfInBounds_toArray, List.set_cons_zero, List.set_cons_succ]
  refine wpAnyH_take (i := 8) (v := ?v9) rfl (by kernel_rfl) (by kernel_rfl) (by kernel_rfl) (fun _ _ _ h => h) (Or.inl ⟨by rfl, ?y9⟩) (by assumption) ?r9
  case y9 =>
    intro w hSw
    clear hSw
    go_simp
    with_reducible rfl
  simp only [Act.put, List.getElem_toArray, List.getElem_cons_succ, List.getElem_cons_zero, List.setIfInBounds_toArray, List.set_cons_zero, List.set_cons_succ]
  refine wpAnyH_take (i := 9) (v := ?v10) rfl (by kernel_rfl) (by kernel_rfl) (by kernel_rfl) (fun _ _ _ h => h) (Or.inl ⟨by rfl, ?y10⟩) (by assumption) ?r10
  case y10 =>
    intro w hSw
    clear hSw
    go_simp
    with_reducible rfl
  simp only [Act.put, List.getElem_toArray, List.getElem_cons_succ, List.getElem_cons_zero, List.setIfInBounds_toArray, List.set_cons_zero, List.set_cons_succ]
  refine wpAnyH_take (i := 10) (v := ?v11) rfl (by kernel_rfl) (by kernel_rfl) (by kernel_rfl) (fun _ _ _ h => h) (Or.inl ⟨by rfl, ?y11⟩) (by assumption) ?r11
  case y11 =>
    intro w hSw
    have q0 := hSw.cell Y0.out (fun h => h)
    go_simp
    with_reducible rfl
  simp only [Act.put, List.getElem_toArray, List.getElem_cons_succ, List.getElem_cons_zero, List.setIfInBounds_toArray, List.set_cons_zero, List.set_cons_succ]
  refine wpAnyH_take (i := 12) (v := ?v12) rfl (by kernel_rfl) (by kernel_rfl) (by kernel_rfl) (fun _ _ _ h => h) (Or.inl ⟨by rfl, ?y12⟩) (by assumption) ?r12
  case y12 =>
    intro w hSw
    clear hSw
    go_simp
    with_reducible rfl
  simp only [Act.put, List.getElem_toArray, List.getElem_cons_succ, List.getElem_cons_zero, List.setIfInBounds_toArray, List.set_cons_zero, List.set_cons_succ]
  refine wpAnyH_take (i := 13) (v := ?v13) rfl (by kernel_rfl) (by kernel_rfl) (by kernel_rfl) (fun _ _ _ h => h) (Or.inl ⟨by rfl, ?y13⟩) (by assumption) ?r13
  case y13 =>
    intro w hSw
    clear hSw
    go_simp
    with_reducible rfl
  simp only [Act.put, List.getElem_toArray, List.getElem_cons_succ, List.getElem_cons_zero, List.setIfInBounds_toArray, List.set_cons_zero, List.set_cons_succ]
  refine wpAnyH_take (i := 14) (v := ?v14) rfl (by kernel_rfl) (by kernel_rfl) (by kernel_rfl) (fun _ _ _ h => h) (Or.inl ⟨by rfl, ?y14⟩) (by assumption) ?r14
  case y14 =>
    intro w hSw
    clear hSw
    go_simp
    with_reducible rfl
  simp only [Act.put, List.getElem_toArray, List.getElem_cons_succ, List.getElem_cons_zero, List.setIfInBounds_toArray, List.set_cons_zero, List.set_cons_succ]
  refine wpAnyH_take (i := 15) (v := ?v15) rfl (by kernel_rfl) (by kernel_rfl) (by kernel_rfl) (fun _ _ _ h => h) (Or.inl ⟨by rfl, ?y15⟩) (by assumption) ?r15
  case y15 =>
    intro w hSw
    have q1 := hSw.cell Y1.out (fun h => h)
    go_simp
    with_reducible rfl
  simp only [Act.put, List.getElem_toArray, List.getElem_cons_succ, List.getElem_cons_zero, List.setIfInBounds_toArray, List.set_cons_zero, List.set_cons_succ]
  refine wpAnyH_ready (rs := [11]) (by kernel_rfl) (by simp) ?_
  refine AllReadyH.cons rfl (fun K hK => ?_) AllReadyH.nil
  rw [if_pos (by rfl)]
  go_simp
  refine (size_at (H9.out.keep hHeld).d N HN.out).mono ?_
  rintro e w' ⟨rfl, rfl⟩
  dsimp only
  refine hK.out _ _ (hHeld) (fun hHeld => ?_)
  clear hK K
  refine wpAnyH_ready (rs := [16]) (by kernel_rfl) (by simp) ?_
  refine AllReadyH.cons rfl (fun K hK => ?_) AllReadyH.nil
  rw [if_pos (by rfl)]
  go_simp
  refine (rsize_at (H9.out.keep hHeld).r N HM.out).mono ?_
  rintro e w' ⟨rfl, rfl⟩
  dsimp only
  refine hK.out _ _ (hHeld) (fun hHeld => ?_)
  clear hK K
  refine wpAnyH_take (i := 17) (v := ?v16) rfl (by kernel_rfl) (by kernel_rfl) (by kernel_rfl) (fun _ _ _ h => h) (Or.inl ⟨by rfl, ?y16⟩) (by assumption) ?r16
  case y16 =>
    intro w hSw
    clear hSw
    go_simp
    with_reducible rfl
  simp only [Act.put, List.getElem_toArray, List.getElem_cons_succ, List.getElem_cons_zero, List.setIfInBounds_toArray, List.set_cons_zero, List.set_cons_succ]
  refine wpAnyH_take (i := 18) (v := ?v17) rfl (by kernel_rfl) (by kernel_rfl) (by kernel_rfl) (fun _ _ _ h => h) (Or.inl ⟨by rfl, ?y17⟩) (by assumption) ?r17
  case y17 =>
    intro w hSw
    clear hSw
    go_simp
    with_reducible rfl
  simp only [Act.put, List.getElem_toArray, List.getElem_cons_succ, List.getElem_cons_zero, List.setIfInBounds_toArray, List.set_cons_zero, List.set_cons_succ]
  refine wpAnyH_take (i := 19) (v := ?v18) rfl (by kernel_rfl) (by kernel_rfl) (by kernel_rfl) (fun _ _ _ h => h) (Or.inl ⟨by rfl, ?y18⟩) (by assumption) ?r18
  case y18 =>
    intro w hSw
    clear hSw
    go_simp
    with_reducible rfl
  simp only [Act.put, List.getElem_toArray, List.getElem_cons_succ, List.getElem_cons_zero, List.setIfInBounds_toArray, List.set_cons_zero, List.set_cons_succ]
  refine wpAnyH_take (i := 20) (v := ?v19) rfl (by kernel_rfl) (by kernel_rfl) (by kernel_rfl) (fun _ _ _ h => h) (Or.inl ⟨by rfl, ?y19⟩) (by assumption) ?r19
  case y19 =>
    intro w hSw
    clear hSw
    go_simp
    with_reducible rfl
  simp only [Act.put, List.getElem_toArray, List.getElem_cons_succ, List.getElem_cons_zero, List.setIfInBounds_toArray, List.set_cons_zero, List.set_cons_succ]
  refine wpAnyH_take (i := 21) (v := ?v20) rfl (by kernel_rfl) (by kernel_rfl) (by kernel_rfl) (fun _ _ _ h => h) (Or.inl ⟨by rfl, ?y20⟩) (by assumption) ?r20
  case y20 =>
    intro w hSw
    clear hSw
    go_simp
    with_reducible rfl
  simp only [Act.put, List.getElem_toArray, List.getElem_cons_succ, List.getElem_cons_zero, List.setIfInBounds_toArray, List.set_cons_zero, List.set_cons_succ]
  refine wpAnyH_take (i := 22) (v := ?v21) rfl (by kernel_rfl) (by kernel_rfl) (by kernel_rfl) (fun _ _ _ h => h) (Or.inl ⟨by rfl, ?y21⟩) (by assumption) ?r21
  case y21 =>
    intro w hSw
    clear hSw
    go_simp
    with_reducible rfl
  simp only [Act.put, List.getElem_toArray, List.getElem_cons_succ, List.getElem_cons_zero, List.setIfInBounds_toArray, List.set_cons_zero, List.set_cons_succ]
  refine wpAnyH_take (i := 23) (v := ?v22) rfl (by kernel_rfl) (by kernel_rfl) (by kernel_rfl) (fun _ _ _ h => h) (Or.inl ⟨by rfl, ?y22⟩) (by assumption) ?r22
  case y22 =>
    intro w hSw
    clear hSw
    go_simp
    with_reducible rfl
  simp only [Act.put, List.getElem_toArray, List.getElem_cons_succ, List.getElem_cons_zero, List.setIfInBounds_toArray, List.set_cons_zero, List.set_cons_succ]
  refine wpAnyH_take (i := 24) (v := ?v23) rfl (by kernel_rfl) (by kernel_rfl) (by kernel_rfl) (fun _ _ _ h => h) (Or.inl ⟨by rfl, ?y23⟩) (by assumption) ?r23
  case y23 =>
    intro w hSw
    clear hSw
    go_simp
    with_reducible rfl
  simp only [Act.put, List.getElem_toArray, List.getElem_cons_succ, List.getElem_cons_zero, List.setIfInBounds_toArray, List.set_cons_zero, List.set_cons_succ]
  refine wpAnyH_take (i := 26) (v := ?v24) rfl (by kernel_rfl) (by kernel_rfl) (by kernel_rfl) (fun _ _ _ h => h) (Or.inl ⟨by rfl, ?y24⟩) (by assumption) ?r24
  case y24 =>
    intro w hSw
    clear hSw
    go_simp
    with_reducible rfl
  simp only [Act.put, List.getElem_toArray, List.getElem_cons_succ, List.getElem_cons_zero, List.setIfInBounds_toArray, List.set_cons_zero, List.set_cons_succ]
  refine wpAnyH_ready (rs := [25]) (by kernel_rfl) (by simp) ?_
  refine AllReadyH.cons rfl (fun K hK => ?_) AllReadyH.nil
  rw [if_pos (by rfl)]
  go_simp
  refine (size_at (D9.out.keep hHeld (fun _ _ h => h)) m HL.out).mono ?_
  rintro e w' ⟨rfl, rfl⟩
  dsimp only
  refine hK.out _ _ (hHeld) (fun hHeld => ?_)
  clear hK K
  refine wpAnyH_take (i := 27) (v := ?v25) rfl (by kernel_rfl) (by kernel_rfl) (by kernel_rfl) (fun _ _ _ h => h) (Or.inl ⟨by rfl, ?y25⟩) (by assumption) ?r25
  case y25 =>
    intro w hSw
    clear hSw
    go_simp
    with_reducible rfl
  simp only [Act.put, List.getElem_toArray, List.getElem_cons_succ, List.getElem_cons_zero, List.setIfInBounds_toArray, List.set_cons_zero, List.set_cons_succ]
  refine wpAnyH_take (i := 28) (v := ?v26) rfl (by kernel_rfl) (by kernel_rfl) (by kernel_rfl) (fun _ _ _ h => h) (Or.inl ⟨by rfl, ?y26⟩) (by assumption) ?r26
  case y26 =>
    intro w hSw
    clear hSw
    go_simp
    with_reducible rfl
  simp only [Act.put, List.getElem_toArray, List.getElem_cons_succ, List.getElem_cons_zero, List.setIfInBounds_toArray, List.set_cons_zero, List.set_cons_succ]
  refine wpAnyH_take (i := 29) (v := ?v27) rfl (by kernel_rfl) (by kernel_rfl) (by kernel_rfl) (fun _ _ _ h => h) (Or.inl ⟨by rfl, ?y27⟩) (by assumption) ?r27
  case y27 =>
    intro w hSw
    clear hSw
    go_simp
    with_reducible rfl
  simp only [Act.put, List.getElem_toArray, List.getElem_cons_succ, List.getElem_cons_zero, List.setIfInBounds_toArray, List.set_cons_zero, List.set_cons_succ]
  refine wpAnyH_take (i := 30) (v := ?v28) rfl (by kernel_rfl) (by kernel_rfl) (by kernel_rfl) (fun _ _ _ h => h) (Or.inl ⟨by rfl, ?y28⟩) (by assumption) ?r28
  case y28 =>
    intro w hSw
    clear hSw
    go_simp
    with_reducible rfl
  simp only [Act.put, List.getElem_toArray, List.getElem_cons_succ, List.getElem_cons_zero, List.setIfInBounds_toArray, List.set_cons_zero, List.set_cons_succ]
  refine wpAnyH_take (i := 31) (v := ?v29) rfl (by kernel_rfl) (by kernel_rfl) (by kernel_rfl) (fun _ _ _ h => h) (Or.inl ⟨by rfl, ?y29⟩) (by assumption) ?r29
  case y29 =>
    intro w hSw
    clear hSw
    go_simp
    with_reducible rfl
  simp only [Act.put, List.getElem_toArray, List.getElem_cons_succ, List.getElem_cons_zero, List.setIfInBounds_toArray, List.set_cons_zero, List.set_cons_succ]
  refine wpAnyH_take (i := 32) (v := ?v30) rfl (by kernel_rfl) (by kernel_rfl) (by kernel_rfl) (fun _ _ _ h => h) (Or.inl ⟨by rfl, ?y30⟩) (by assumption) ?r30
  case y30 =>
    intro w hSw
    clear hSw
    go_simp
    with_reducible rfl
  simp only [Act.put, List.getElem_toArray, List.getElem_cons_succ, List.getElem_cons_zero, List.setIfInBounds_toArray, List.set_cons_zero, List.set_cons_succ]
  refine wpAnyH_take (i := 34) (v := ?v31) rfl (by kernel_rfl) (by kernel_rfl) (by kernel_rfl) (fun _ _ _ h => h) (Or.inl ⟨by rfl, ?y31⟩) (by assumption) ?r31
  case y31 =>
    intro w hSw
    clear hSw
    go_simp
    with_reducible rfl
  simp only [Act.put, List.getElem_toArray, List.getElem_cons_succ, List.getElem_cons_zero, List.setIfInBounds_toArray, List.set_cons_zero, List.set_cons_succ]
  refine wpAnyH_ready (rs := [33, 35]) (by kernel_rfl) (by simp) ?_
  refine AllReadyH.cons rfl (fun K hK => ?_) (AllReadyH.cons rfl (fun K hK => ?_) AllReadyH.nil)
  · rw [if_pos (by rfl)]
    go_simp
    refine (read_at (D9.out.keep hHeld (fun _ _ h => h)) 0 ((m : Int) + 1) (repB 0 m) HR.out).mono ?_
    rintro e w' ⟨rfl, jj, rfl⟩
    dsimp only
    refine hK.out _ _ (hHeld.trans (Kp.drewN (fun _ => False) _ _) fun _ (h : False) => h.elim) (fun hHeld => ?_)
    clear hK K
    refine wpAnyH_ready (rs := [35]) (by kernel_rfl) (by simp) ?_
    refine AllReadyH.cons rfl (fun K hK => ?_) AllReadyH.nil
    rw [if_pos (by rfl)]
    go_simp
    refine hK.out _ _ ((Kp.drewN (fun _ => False) w9 _).trans (Kp.alloc (fun _ => False) _ _) fun _ (h : False) => h.elim) (fun hHeld => ?_)
    clear hK K
    refine wpAnyH_to (S' := fun w' => Kp (fun _ => False) w9 w' ∧ w'.heap[w9.heap.size]? = some (.cells (madeCells #[.int .u8 0] m) 5 (0, 0))) (fun _ h => h.1) _ _ _ _ ?_
    replace hHeld := (⟨hHeld, heap_alloc_new (w9.drewN _) _⟩ : (fun w' => Kp (fun _ => False) w9 w' ∧ w'.heap[w9.heap.size]? = some (.cells (madeCells #[.int .u8 0] m) 5 (0, 0))) _)
    refine wpAnyH_take (i := 36) (v := ?v32) rfl (by kernel_rfl) (by kernel_rfl) (by kernel_rfl) (fun _ _ _ h => h) (Or.inl ⟨by rfl, ?y32⟩) (by assumption) ?r32
    case y32 =>
      intro w hSw
      have hv := HC.out w hSw.2
      clear hSw
      go_simp
      with_reducible rfl
    simp only [Act.put, List.getElem_toArray, List.getElem_cons_succ, List.getElem_cons_zero, List.setIfInBounds_toArray, List.set_cons_zero, List.set_cons_succ]
    refine wpAnyH_take (i := 37) (v := ?v33) rfl (by kernel_rfl) (by kernel_rfl) (by kernel_rfl) (fun _ _ _ h => h) (Or.inl ⟨by rfl, ?y33⟩) (by assumption) ?r33
    case y33 =>
      intro w hSw
      clear hSw
      go_simp
      with_reducible rfl
    simp only [Act.put, List.getElem_toArray, List.getElem_cons_succ, List.getElem_cons_zero, List.setIfInBounds_toArray, List.set_cons_zero, List.set_cons_succ]
    refine wpAnyH_take (i := 38) (v := ?v34) rfl (by kernel_rfl) (by kernel_rfl) (by kernel_rfl) (fun _ _ _ h => h) (Or.inl ⟨by rfl, ?y34⟩) (by assumption) ?r34
    case y34 =>
      intro w hSw
      clear hSw
      go_simp
      with_reducible rfl
    simp only [Act.put, List.getElem_toArray, List.getElem_cons_succ, List.getElem_cons_zero, List.setIfInBounds_toArray, List.set_cons_zero, List.set_cons_succ]
    refine wpAnyH_take (i := 39) (v := ?v35) rfl (by kernel_rfl) (by kernel_rfl) (by kernel_rfl) (fun _ _ _ h => h) (Or.inl ⟨by rfl, ?y35⟩) (by assumption) ?r35
    case y35 =>
      intro w hSw
      clear hSw
      go_simp
      with_reducible rfl
    simp only [Act.put, List.getElem_toArray, List.getElem_cons_succ, List.getElem_cons_zero, List.setIfInBounds_toArray, List.set_cons_zero, List.set_cons_succ]
    refine wpAnyH_take (i := 40) (v := ?v36) rfl (by kernel_rfl) (by kernel_rfl) (by kernel_rfl) (fun _ _ _ h => h) (Or.inl ⟨by rfl, ?y36⟩) (by assumption) ?r36
    case y36 =>
      intro w hSw
      clear hSw
      go_simp
      with_reducible rfl
    simp only [Act.put, List.getElem_toArray, List.getElem_cons_succ, List.getElem_cons_zero, List.setIfInBounds_toArray, List.set_cons_zero, List.set_cons_succ]
    refine wpAnyH_take (i := 41) (v := ?v37) rfl (by kernel_rfl) (by kernel_rfl) (by kernel_rfl) (fun _ _ _ h => h) (Or.inl ⟨by rfl, ?y37⟩) (by assumption) ?r37
    case y37 =>
      intro w hSw
      clear hSw
      go_simp
      with_reducible rfl
    simp only [Act.put, List.getElem_toArray, List.getElem_cons_succ, List.getElem_cons_zero, List.setIfInBounds_toArray, List.set_cons_zero, List.set_cons_succ]
    refine wpAnyH_take (i := 42) (v := ?v38) rfl (by kernel_rfl) (by kernel_rfl) (by kernel_rfl) (fun _ _ _ h => h) (Or.inl ⟨by rfl, ?y38⟩) (by assumption) ?r38
    case y38 =>
      intro w hSw
      clear hSw
      go_simp
      with_reducible rfl
    simp only [Act.put, List.getElem_toArray, List.getElem_cons_succ, List.getElem_cons_zero, List.setIfInBounds_toArray, List.set_cons_zero, List.set_cons_succ]
    refine wpAnyH_ready (rs := [43]) (by kernel_rfl) (by simp) ?_
    refine AllReadyH.cons rfl (fun K hK => ?_) AllReadyH.nil
    rw [if_pos (by rfl)]
    go_simp
    refine (write_bad _ _ (-1 - (m : Int)) ⟨#[]⟩ (by decide +kernel) HB1.out).mono ?_
    rintro e w' ⟨rfl, rfl⟩
    dsimp only
    refine hK.out _ _ (hHeld) (fun hHeld => ?_)
    clear hK K
    refine wpAnyH_take (i := 44) (v := ?v39) rfl (by kernel_rfl) (by kernel_rfl) (by kernel_rfl) (fun _ _ _ h => h) (Or.inl ⟨by rfl, ?y39⟩) (by assumption) ?r39
    case y39 =>
      intro w hSw
      clear hSw
      go_simp
      with_reducible rfl
    simp only [Act.put, List.getElem_toArray, List.getElem_cons_succ, List.getElem_cons_zero, List.setIfInBounds_toArray, List.set_cons_zero, List.set_cons_succ]
    refine wpAnyH_take (i := 45) (v := ?v40) rfl (by kernel_rfl) (by kernel_rfl) (by kernel_rfl) (fun _ _ _ h => h) (Or.inl ⟨by rfl, ?y40⟩) (by assumption) ?r40
    case y40 =>
      intro w hSw
      clear hSw
      go_simp
      with_reducible rfl
    simp only [Act.put, List.getElem_toArray, List.getElem_cons_succ, List.getElem_cons_zero, List.setIfInBounds_toArray, List.set_cons_zero, List.set_cons_succ]
    refine wpAnyH_take (i := 46) (v := ?v41) rfl (by kernel_rfl) (by kernel_rfl) (by kernel_rfl) (fun _ _ _ h => h) (Or.inl ⟨by rfl, ?y41⟩) (by assumption) ?r41
    case y41 =>
      intro w hSw
      clear hSw
      go_simp
      with_reducible rfl
    simp only [Act.put, List.getElem_toArray, List.getElem_cons_succ, List.getElem_cons_zero, List.setIfInBounds_toArray, List.set_cons_zero, List.set_cons_succ]
    refine wpAnyH_take (i := 47) (v := ?v42) rfl (by kernel_rfl) (by kernel_rfl) (by kernel_rfl) (fun _ _ _ h => h) (Or.inl ⟨by rfl, ?y42⟩) (by assumption) ?r42
    case y42 =>
      intro w hSw
      clear hSw
      go_simp
      with_reducible rfl
    simp only [Act.put, List.getElem_toArray, List.getElem_cons_succ, List.getElem_cons_zero, List.setIfInBounds_toArray, List.set_cons_zero, List.set_cons_succ]
    refine wpAnyH_take (i := 48) (v := ?v43) rfl (by kernel_rfl) (by kernel_rfl) (by kernel_rfl) (fun _ _ _ h => h) (Or.inl ⟨by rfl, ?y43⟩) (by assumption) ?r43
    case y43 =>
      intro w hSw
      clear hSw
      go_simp
      with_reducible rfl
    simp only [Act.put, List.getElem_toArray, List.getElem_cons_succ, List.getElem_cons_zero, List.setIfInBounds_toArray, List.set_cons_zero, List.set_cons_succ]
    refine wpAnyH_take (i := 49) (v := ?v44) rfl (by kernel_rfl) (by kernel_rfl) (by kernel_rfl) (fun _ _ _ h => h) (Or.inl ⟨by rfl, ?y44⟩) (by assumption) ?r44
    case y44 =>
      intro w hSw
      clear hSw
      go_simp
      with_reducible rfl
    simp only [Act.put, List.getElem_toArray, List.getElem_cons_succ, List.getElem_cons_zero, List.setIfInBounds_toArray, List.set_cons_zero, List.set_cons_succ]
    refine wpAnyH_ready (rs := [50]) (by kernel_rfl) (by simp) ?_
    refine AllReadyH.cons rfl (fun K hK => ?_) AllReadyH.nil
    rw [if_pos (by rfl)]
    go_simp
    refine (write_bad _ _ (9223372036854775807 - (m : Int)) ⟨#[97, 98]⟩ (by decide +kernel) HB2.out).mono ?_
    rintro e w' ⟨rfl, rfl⟩
    dsimp only
    refine hK.out _ _ (hHeld) (fun hHeld => ?_)
    clear hK K
    refine wpAnyH_take (i := 51) (v := ?v45) rfl (by kernel_rfl) (by kernel_rfl) (by kernel_rfl) (fun _ _ _ h => h) (Or.inl ⟨by rfl, ?y45⟩) (by assumption) ?r45
    case y45 =>
      intro w hSw
      clear hSw
      go_simp
      with_reducible rfl
    simp only [Act.put, List.getElem_toArray, List.getElem_cons_succ, List.getElem_cons_zero, List.setIfInBounds_toArray, List.set_cons_zero, List.set_cons_succ]
    refine wpAnyH_take (i := 52) (v := ?v46) rfl (by kernel_rfl) (by kernel_rfl) (by kernel_rfl) (fun _ _ _ h => h) (Or.inl ⟨by rfl, ?y46⟩) (by assumption) ?r46
    case y46 =>
      intro w hSw
      clear hSw
      go_simp
      with_reducible rfl
    simp only [Act.put, List.getElem_toArray, List.getElem_cons_succ, List.getElem_cons_zero, List.setIfInBounds_toArray, List.set_cons_zero, List.set_cons_succ]
    refine wpAnyH_take (i := 53) (v := ?v47) rfl (by kernel_rfl) (by kernel_rfl) (by kernel_rfl) (fun _ _ _ h => h) (Or.inl ⟨by rfl, ?y47⟩) (by assumption) ?r47
    case y47 =>
      intro w hSw
      clear hSw
      go_simp
      with_reducible rfl
    simp only [Act.put, List.getElem_toArray, List.getElem_cons_succ, List.getElem_cons_zero, List.setIfInBounds_toArray, List.set_cons_zero, List.set_cons_succ]
    refine wpAnyH_done (by kernel_rfl) ?_ _
    go_wp2_with fail
    have hf := hHeld.1
    go_ret
    exact ⟨rfl, B9.out.trans (kp_belowB hf H9.out.sizeB)⟩
  · rw [if_pos (by rfl)]
    go_simp
    refine hK.out _ _ (hHeld.trans (Kp.alloc (fun _ => False) _ _) fun _ (h : False) => h.elim) (fun hHeld => ?_)
    clear hK K
    refine wpAnyH_to (S' := fun w' => Kp (fun _ => False) w9 w' ∧ w'.heap[w9.heap.size]? = some (.cells (madeCells #[.int .u8 0] m) 5 (0, 0))) (fun _ h => h.1) _ _ _ _ ?_
    replace hHeld := (⟨hHeld, heap_alloc_new (w9.drewN _) _⟩ : (fun w' => Kp (fun _ => False) w9 w' ∧ w'.heap[w9.heap.size]? = some (.cells (madeCells #[.int .u8 0] m) 5 (0, 0))) _)
    refine wpAnyH_take (i := 36) (v := ?v48) rfl (by kernel_rfl) (by kernel_rfl) (by kernel_rfl) (fun _ _ _ h => h) (Or.inl ⟨by rfl, ?y48⟩) (by assumption) ?r48
    case y48 =>
      intro w hSw
      have hv := HC.out w hSw.2
      clear hSw
      go_simp
      with_reducible rfl
    simp only [Act.put, List.getElem_toArray, List.getElem_cons_succ, List.getElem_cons_zero, List.setIfInBounds_toArray, List.set_cons_zero, List.set_cons_succ]
    refine wpAnyH_ready (rs := [33]) (by kernel_rfl) (by simp) ?_
    refine AllReadyH.cons rfl (fun K hK => ?_) AllReadyH.nil
    rw [if_pos (by rfl)]
    go_simp
    refine (read_at (D9.out.keep hHeld.1 (fun _ _ h => h)) 0 ((m : Int) + 1) (repB 0 m) HR.out).mono ?_
    rintro e w' ⟨rfl, jj, rfl⟩
    dsimp only
    refine hK.out _ _ (⟨hHeld.1.trans (Kp.drewN (fun _ => False) _ _) fun _ (h : False) => h.elim, hHeld.2⟩) (fun hHeld => ?_)
    clear hK K
    refine wpAnyH_take (i := 37) (v := ?v49) rfl (by kernel_rfl) (by kernel_rfl) (by kernel_rfl) (fun _ _ _ h => h) (Or.inl ⟨by rfl, ?y49⟩) (by assumption) ?r49
    case y49 =>
      intro w hSw
      clear hSw
      go_simp
      with_reducible rfl
    simp only [Act.put, List.getElem_toArray, List.getElem_cons_succ, List.getElem_cons_zero, List.setIfInBounds_toArray, List.set_cons_zero, List.set_cons_succ]
    refine wpAnyH_take (i := 38) (v := ?v50) rfl (by kernel_rfl) (by kernel_rfl) (by kernel_rfl) (fun _ _ _ h => h) (Or.inl ⟨by rfl, ?y50⟩) (by assumption) ?r50
    case y50 =>
      intro w hSw
      clear hSw
      go_simp
      with_reducible rfl
    simp only [Act.put, List.getElem_toArray, List.getElem_cons_succ, List.getElem_cons_zero, List.setIfInBounds_toArray, List.set_cons_zero, List.set_cons_succ]
    refine wpAnyH_take (i := 39) (v := ?v51) rfl (by kernel_rfl) (by kernel_rfl) (by kernel_rfl) (fun _ _ _ h => h) (Or.inl ⟨by rfl, ?y51⟩) (by assumption) ?r51
    case y51 =>
      intro w hSw
      clear hSw
      go_simp
      with_reducible rfl
    simp only [Act.put, List.getElem_toArray, List.getElem_cons_succ, List.getElem_cons_zero, List.setIfInBounds_toArray, List.set_cons_zero, List.set_cons_succ]
    refine wpAnyH_take (i := 40) (v := ?v52) rfl (by kernel_rfl) (by kernel_rfl) (by kernel_rfl) (fun _ _ _ h => h) (Or.inl ⟨by rfl, ?y52⟩) (by assumption) ?r52
    case y52 =>
      intro w hSw
      clear hSw
      go_simp
      with_reducible rfl
    simp only [Act.put, List.getElem_toArray, List.getElem_cons_succ, List.getElem_cons_zero, List.setIfInBounds_toArray, List.set_cons_zero, List.set_cons_succ]
    refine wpAnyH_take (i := 41) (v := ?v53) rfl (by kernel_rfl) (by kernel_rfl) (by kernel_rfl) (fun _ _ _ h => h) (Or.inl ⟨by rfl, ?y53⟩) (by assumption) ?r53
    case y53 =>
      intro w hSw
      clear hSw
      go_simp
      with_reducible rfl
    simp only [Act.put, List.getElem_toArray, List.getElem_cons_succ, List.getElem_cons_zero, List.setIfInBounds_toArray, List.set_cons_zero, List.set_cons_succ]
    refine wpAnyH_take (i := 42) (v := ?v54) rfl (by kernel_rfl) (by kernel_rfl) (by kernel_rfl) (fun _ _ _ h => h) (Or.inl ⟨by rfl, ?y54⟩) (by assumption) ?r54
    case y54 =>
      intro w hSw
      clear hSw
      go_simp
      with_reducible rfl
    simp only [Act.put, List.getElem_toArray, List.getElem_cons_succ, List.getElem_cons_zero, List.setIfInBounds_toArray, List.set_cons_zero, List.set_cons_succ]
    refine wpAnyH_ready (rs := [43]) (by kernel_rfl) (by simp) ?_
    refine AllReadyH.cons rfl (fun K hK => ?_) AllReadyH.nil
    rw [if_pos (by rfl)]
    go_simp
    refine (write_bad _ _ (-1 - (m : Int)) ⟨#[]⟩ (by decide +kernel) HB1.out).mono ?_
    rintro e w' ⟨rfl, rfl⟩
    dsimp only
    refine hK.out _ _ (by first | exact hHeld | exact ⟨(Kp.alloc (fun _ => False) w9 _).trans (Kp.drewN (fun _ => False) _ _) fun _ (h : False) => h.elim, heap_alloc_new w9 _⟩) (fun hHeld => ?_)
    clear hK K
    refine wpAnyH_take (i := 44) (v := ?v55) rfl (by kernel_rfl) (by kernel_rfl) (by kernel_rfl) (fun _ _ _ h => h) (Or.inl ⟨by rfl, ?y55⟩) (by assumption) ?r55
    case y55 =>
      intro w hSw
      clear hSw
      go_simp
      with_reducible rfl
    simp only [Act.put, List.getElem_toArray, List.getElem_cons_succ, List.getElem_cons_zero, List.setIfInBounds_toArray, List.set_cons_zero, List.set_cons_succ]
    refine wpAnyH_take (i := 45) (v := ?v56) rfl (by kernel_rfl) (by kernel_rfl) (by kernel_rfl) (fun _ _ _ h => h) (Or.inl ⟨by rfl, ?y56⟩) (by assumption) ?r56
    case y56 =>
      intro w hSw
      clear hSw
      go_simp
      with_reducible rfl
    simp only [Act.put, List.getElem_toArray, List.getElem_cons_succ, List.getElem_cons_zero, List.setIfInBounds_toArray, List.set_cons_zero, List.set_cons_succ]
    refine wpAnyH_take (i := 46) (v := ?v57) rfl (by kernel_rfl) (by kernel_rfl) (by kernel_rfl) (fun _ _ _ h => h) (Or.inl ⟨by rfl, ?y57⟩) (by assumption) ?r57
    case y57 =>
      intro w hSw
      clear hSw
      go_simp
      with_reducible rfl
    simp only [Act.put, List.getElem_toArray, List.getElem_cons_succ, List.getElem_cons_zero, List.setIfInBounds_toArray, List.set_cons_zero, List.set_cons_succ]
    refine wpAnyH_take (i := 47) (v := ?v58) rfl (by kernel_rfl) (by kernel_rfl) (by kernel_rfl) (fun _ _ _ h => h) (Or.inl ⟨by rfl, ?y58⟩) (by assumption) ?r58
    case y58 =>
      intro w hSw
      clear hSw
      go_simp
      with_reducible rfl
    simp only [Act.put, List.getElem_toArray, List.getElem_cons_succ, List.getElem_cons_zero, List.setIfInBounds_toArray, List.set_cons_zero, List.set_cons_succ]
    refine wpAnyH_take (i := 48) (v := ?v59) rfl (by kernel_rfl) (by kernel_rfl) (by kernel_rfl) (fun _ _ _ h => h) (Or.inl ⟨by rfl, ?y59⟩) (by assumption) ?r59
    case y59 =>
      intro w hSw
      clear hSw
      go_simp
      with_reducible rfl
    simp only [Act.put, List.getElem_toArray, List.getElem_cons_succ, List.getElem_cons_zero, List.setIfInBounds_toArray, List.set_cons_zero, List.set_cons_succ]
    refine wpAnyH_take (i := 49) (v := ?v60) rfl (by kernel_rfl) (by kernel_rfl) (by kernel_rfl) (fun _ _ _ h => h) (Or.inl ⟨by rfl, ?y60⟩) (by assumption) ?r60
    case y60 =>
      intro w hSw
      clear hSw
      go_simp
      with_reducible rfl
    simp only [Act.put, List.getElem_toArray, List.getElem_cons_succ, List.getElem_cons_zero, List.setIfInBounds_toArray, List.set_cons_zero, List.set_cons_succ]
    refine wpAnyH_ready (rs := [50]) (by kernel_rfl) (by simp) ?_
    refine AllReadyH.cons rfl (fun K hK => ?_) AllReadyH.nil
    rw [if_pos (by rfl)]
    go_simp
    refine (write_bad _ _ (9223372036854775807 - (m : Int)) ⟨#[97, 98]⟩ (by decide +kernel) HB2.out).mono ?_
    rintro e w' ⟨rfl, rfl⟩
    dsimp only
    refine hK.out _ _ (by first | exact hHeld | exact ⟨(Kp.alloc (fun _ => False) w9 _).trans (Kp.drewN (fun _ => False) _ _) fun _ (h : False) => h.elim, heap_alloc_new w9 _⟩) (fun hHeld => ?_)
    clear hK K
    refine wpAnyH_take (i := 51) (v := ?v61) rfl (by kernel_rfl) (by kernel_rfl) (by kernel_rfl) (fun _ _ _ h => h) (Or.inl ⟨by rfl, ?y61⟩) (by assumption) ?r61
    case y61 =>
      intro w hSw
      clear hSw
      go_simp
      with_reducible rfl
    simp only [Act.put, List.getElem_toArray, List.getElem_cons_succ, List.getElem_cons_zero, List.setIfInBounds_toArray, List.set_cons_zero, List.set_cons_succ]
    refine wpAnyH_take (i := 52) (v := ?v62) rfl (by kernel_rfl) (by kernel_rfl) (by kernel_rfl) (fun _ _ _ h => h) (Or.inl ⟨by rfl, ?y62⟩) (by assumption) ?r62
    case y62 =>
      intro w hSw
      clear hSw
      go_simp
      with_reducible rfl
    simp only [Act.put, List.getElem_toArray, List.getElem_cons_succ, List.getElem_cons_zero, List.setIfInBounds_toArray, List.set_cons_zero, List.set_cons_succ]
    refine wpAnyH_take (i := 53) (v := ?v63) rfl (by kernel_rfl) (by kernel_rfl) (by kernel_rfl) (fun _ _ _ h => h) (Or.inl ⟨by rfl, ?y63⟩) (by assumption) ?r63
    case y63 =>
      intro w hSw
      clear hSw
      go_simp
      with_reducible rfl
    simp only [Act.put, List.getElem_toArray, List.getElem_cons_succ, List.getElem_cons_zero, List.setIfInBounds_toArray, List.set_cons_zero, List.set_cons_succ]
    refine wpAnyH_done (by kernel_rfl) ?_ _
    go_wp2_with fail
    have hf := hHeld.1
    go_ret
    exact ⟨rfl, B9.out.trans (kp_belowB hf H9.out.sizeB)⟩

end Go.Proofs.Yteekoocbdapciaa
