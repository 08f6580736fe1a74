/- Walks: a text of n bytes; the laws DigestLengths and DigestChains. -/
import Derived.Test.YtgkdjcednebgoaaXe
namespace Go.Proofs.Ytgkdjcednebgoaa
open Go.RowKit Go.Lib

def repC (c : UInt8) (i : Nat) : UInt8 := c + UInt8.ofNat (i / 100)
def repL (c : UInt8) (n : Nat) : List UInt8 := (List.range n).map (repC c)
theorem repL_length (c : UInt8) (n : Nat) : (repL c n).length = n := by simp [repL]
theorem repL_succ (c : UInt8) (n : Nat) : repL c (n + 1) = repL c n ++ [repC c n] := by simp [repL, List.range_succ]

def RepRel (w : World) (c : UInt8) (n : Nat) (i : Value) (wr : World) : Prop :=
  ∃ k, i = .int .i64 (k : Nat) ∧ k ≤ n ∧ wr.heap[w.heap.size]? = some (.cells (byteCells (repL c k ++ List.replicate (n - k) 0)).toArray 5 (0, 0)) ∧ Kp (fun _ => False) w wr

theorem repRel_step {w wr : World} {c : UInt8} {n k : Nat} (hrow : wr.heap[w.heap.size]? = some (.cells (byteCells (repL c k ++ List.replicate (n - k) 0)).toArray 5 (0, 0))) (hkp : Kp (fun _ => False) w wr) (hlt : k < n) :
    RepRel w c n (.int .i64 ((k : Int) + 1)) (wr.setCell ⟨w.heap.size, k, none⟩ (.int .u8 ((repC c k).toNat : Int))) := by
  refine ⟨k + 1, by simp, hlt, ?_, hkp.trans (Kp.setCell (F := fun j => j = w.heap.size) wr (a := ⟨w.heap.size, k, none⟩) _ rfl) fun j hj => .inr (by omega)⟩
  rw [heap_setCell_same wr w.heap.size k _ 5 _ hrow]
  congr 2
  apply Array.ext'
  rw [Array.toList_setIfInBounds, List.toList_toArray, List.toList_toArray]
  obtain ⟨m, hm⟩ : ∃ m, n - k = m + 1 := ⟨n - k - 1, by omega⟩
  have hm2 : n - (k + 1) = m := by omega
  have e : (byteCells (repL c k ++ List.replicate (n - k) 0)).set k (.int .u8 ((repC c k).toNat : Int)) = byteCells ((repL c k ++ List.replicate (n - k) 0).set k (repC c k)) := by
    simp only [byteCells, List.map_set]
  rw [e, hm, hm2, List.replicate_succ (n := m), List.set_append_right _ _ (by rw [repL_length]; exact Nat.le_refl _), repL_length, Nat.sub_self, List.set_cons_zero, repL_succ, List.append_assoc]
  rfl

set_option maxHeartbeats 400000 in
theorem repeated_any (c : UInt8) (cv : Int) (hc : cv = (c.toNat : Int)) (n : Nat) (m : Int) (hm : m = (n : Int)) (hn : n ≤ 100000) (w : World) :
    Calls Try.prog 13 #[.int .u8 cv, .int .i64 m] w fun e w' => e = .returned (.string ⟨(repL c n).toArray⟩) ∧ Kp (fun _ => False) w w' := by
  subst hc hm
  obtain ⟨i0, hi, hz0, hz1, hz2⟩ := info_parts Try.info5
  have hmk : ∀ u : World, (Instr.makeSlice 33 (.int .i64 (n : Int)) (.int .i64 (n : Int))).run Try.prog u =
      .ok (.slice (some ⟨u.heap.size, 0, none⟩) n n) (u.alloc (.cells (madeCells #[.int .u8 0] n) 5)) := fun u => by
    have h := run_make (P := Try.prog) u 33 5 i0 (.int .u8 0) Try.underlying33 hi hz0 .i64 .i64 (n : Int) (n : Int) (by omega) (Int.le_refl _) (by rw [hz2]; omega) (by omega)
    simpa [hz1, Value.cells] using h
  have hc256 : (c.toNat : Int) < 256 := by have := UInt8.toNat_lt c; omega
  go_enter Try.func13, Try.ntmps13
  go_wp2
  go_loopw [6] (fun i wr => RepRel w c n i wr) (fun i _ => n - (Go.RowKit.intOf i).toNat)
  case atStart =>
    refine ⟨0, rfl, Nat.zero_le _, ?_, Kp.alloc _ _ _⟩
    rw [heap_alloc_new]
    simp only [repL, List.range_zero, List.map_nil, List.nil_append, Nat.sub_zero, byteCells_zeros, ← madeCells_zeros]
  case round =>
    obtain ⟨k, rfl, hk, hrow, hkp⟩ := hrel
    by_cases hlt : k < n
    · have hcell : ∃ v, wr.cell? ⟨w.heap.size, k, none⟩ = some v := by
        rw [cell_of_row _ _ _ _ _ _ hrow]
        exact ⟨_, rowB_some _ k (by simp [repL_length]; omega)⟩
      obtain ⟨v0, hc0⟩ := hcell
      have hf0 := frozen_of_row wr w.heap.size k _ _ hrow
      have HR := Lib.hid hrow
      have HK := Lib.hid hkp
      have hki : (k : Int) ≤ 100000 := by omega
      obtain ⟨x, hx⟩ : ∃ x : Int, IntKind.u8.wrap ((c.toNat : Int) + (k : Int) / 100 % 256) = x := ⟨_, rfl⟩
      have HXX : Hid (x = ((repC c k).toNat : Int)) := Lib.hid (by
        rw [← hx, IntKind.wrap_u8', repC, UInt8.toNat_add]
        simp)
      clear hrow hkp
      go_wp2
      go_roundw
      case rel =>
        first
          | (rw [HXX.out]; exact repRel_step HR.out HK.out hlt)
          | (have hv : ((c.toNat : Int) + (k : Int) / 100 % 256) % 256 = ((repC c k).toNat : Int) := by rw [← HXX.out, ← hx, IntKind.wrap_u8']
             rw [hv]; exact repRel_step HR.out HK.out hlt)
      case measure => simp [Go.RowKit.intOf]; omega
    · obtain rfl : k = n := by omega
      have hcv : (convert 33 9 (.slice (some ⟨w.heap.size, 0, none⟩) k k)).run Try.prog wr = .ok (.string ⟨(repL c k).toArray⟩) wr := by
        have e1 : (⟨(repL c k).toArray⟩ : ByteArray) = strOfNums ((repL c k).map fun b => (b.toNat : Int)) := by
          apply ba_ext
          rw [strOfNums_data]
          simp [Function.comp_def]
        rw [e1]
        refine run_convert_bytes_arg _ 33 5 Try.underlying33 Try.underlying5 w.heap.size 0 k k _ (by simp [repL_length]) ?_ 9 Try.underlying9
        intro i hi
        rw [Nat.zero_add, cell_of_row _ _ _ _ _ _ hrow, rowB_some _ i (by simp [repL_length]; omega)]
        simp [List.getD, repL_length, hi]
      have HK := Lib.hid hkp
      clear hrow hkp hlt
      go_wp2
      go_ret
      exact ⟨rfl, HK.out⟩

theorem wf_u8 {n : Int} (h : (Lit.int .u8 n).wf = true) : 0 ≤ n ∧ n ≤ 255 := by
  simpa [Lit.wf, IntKind.min, IntKind.max, IntKind.signed, IntKind.bits] using h

theorem textL_length : ∀ l : List UInt8, (textL l).length = 2 * l.length := by
  intro l
  induction l with
  | nil => rfl
  | cons a l ih => simp [textL, hex2] at ih ⊢; omega

set_option maxRecDepth 100000 in
set_option maxHeartbeats 4000000 in
theorem lengths_walk (W : World) (cv n far : Int) (hcv : 0 ≤ cv ∧ cv ≤ 255) : Calls Try.prog 4 #[.int .u8 cv, .int .i64 n, .int .i64 far] W fun e w' => e = .returned (.bool true) ∧ Below W.heap.size W w' := by
  obtain ⟨c, hc⟩ : ∃ c : UInt8, cv = (c.toNat : Int) := ⟨UInt8.ofNat cv.toNat, by simp; omega⟩
  obtain ⟨k, hk⟩ : ∃ k : Nat, n % 300 = (k : Int) := ⟨(n % 300).toNat, by omega⟩
  obtain ⟨q, hq⟩ : ∃ k : Nat, n % 4 = (k : Int) := ⟨(n % 4).toNat, by omega⟩
  obtain ⟨r, hr⟩ : ∃ k : Nat, far % 20 = (k : Int) := ⟨(far % 20).toNat, by omega⟩
  have k3 : k < 300 := by omega
  have q4 : q < 4 := by omega
  have r2 : r < 20 := by omega
  have q4i : (q : Int) < 4 := by omega
  have r2i : (r : Int) < 20 := by omega
  have HC := Lib.hid hc
  have HK := Lib.hid hk
  have HQ := Lib.hid hq
  have HR := Lib.hid hr
  obtain ⟨xa, hxa⟩ : ∃ x : ByteArray, x = ⟨(repL c k).toArray⟩ := ⟨_, rfl⟩
  obtain ⟨xb, hxb⟩ : ∃ x : ByteArray, x = ⟨(repL c (64 * q + 50 + r)).toArray⟩ := ⟨_, rfl⟩
  have sa : xa.size ≤ 100000 := by rw [hxa, size_list]; simp [repL_length]; omega
  have sb : xb.size ≤ 100000 := by rw [hxb, size_list]; simp [repL_length]; omega
  have XA := Lib.hid hxa.symm
  have XB := Lib.hid hxb.symm
  obtain ⟨H1, hH1⟩ : ∃ H, H = hashOf xa.data.toList := ⟨_, rfl⟩
  obtain ⟨H2, hH2⟩ : ∃ H, H = hashOf xb.data.toList := ⟨_, rfl⟩
  have hl1 : H1.length = 32 := by rw [hH1]; exact hashOf_length _
  have hl2 : H2.length = 32 := by rw [hH2]; exact hashOf_length _
  have heq1 := run_eq32 H1 H1 hl1 hl1
  have heq2 := run_eq32 H2 H2 hl2 hl2
  rw [beq_self_eq_true] at heq1 heq2
  have E1 := Lib.hid hH1.symm
  have E2 := Lib.hid hH2.symm
  clear hc hk hq hr hxa hxb hH1 hH2
  go_enter Try.func4, Try.ntmps4
  go_wp2_with fail
  refine (sanity_any W).mono ?_
  rintro e w1 ⟨rfl, k1⟩
  have K1 := Lib.hid k1
  clear k1
  go_wp2_with fail
  refine (mod_any n 300 _ (by omega) (by omega)).mono ?_
  rintro e w' ⟨rfl, rfl⟩
  rw [HK.out]
  go_wp2_with fail
  refine (repeated_any c cv HC.out k (k : Int) rfl (by omega) w1).mono ?_
  rintro e w2 ⟨rfl, k2⟩
  rw [XA.out]
  have K2 := Lib.hid (K1.out.trans k2 fun _ h => h.elim)
  clear k2
  go_wp2_with fail
  refine (mod_any n 4 _ (by omega) (by omega)).mono ?_
  rintro e w' ⟨rfl, rfl⟩
  rw [HQ.out]
  go_wp2_with fail
  refine (mod_any far 20 _ (by omega) (by omega)).mono ?_
  rintro e w' ⟨rfl, rfl⟩
  rw [HR.out]
  go_wp2_with fail
  refine (repeated_any c cv HC.out (64 * q + 50 + r) (64 * (q : Int) + 50 + (r : Int)) (by omega) (by omega) w2).mono ?_
  rintro e w3 ⟨rfl, k3'⟩
  rw [XB.out]
  have K3 := Lib.hid (K2.out.trans k3' fun _ h => h.elim)
  clear k3'
  go_wp2_with fail
  refine (sum_any xa w3 sa).mono ?_
  rintro e w4 ⟨rfl, k4⟩
  rw [E1.out]
  have K4 := Lib.hid (K3.out.trans k4 fun _ h => h.elim)
  clear k4
  go_wp2_with fail
  refine (rsum_any xa w4 sa).mono ?_
  rintro e w5 ⟨rfl, k5⟩
  rw [E1.out]
  have K5 := Lib.hid (K4.out.trans k5 fun _ h => h.elim)
  clear k5
  go_wp2_with fail
  refine (sum_any xb w5 sb).mono ?_
  rintro e w6 ⟨rfl, k6⟩
  rw [E2.out]
  have K6 := Lib.hid (K5.out.trans k6 fun _ h => h.elim)
  clear k6
  go_wp2_with fail
  refine (rsum_any xb w6 sb).mono ?_
  rintro e w7 ⟨rfl, k7⟩
  rw [E2.out]
  have K7 := Lib.hid (K6.out.trans k7 fun _ h => h.elim)
  clear k7
  go_wp2_with fail
  go_ret
  exact ⟨rfl, K7.out.belowS⟩

def ChRel (W : World) (n : Nat) (i x y : Value) (wr : World) : Prop :=
  ∃ (k : Nat) (t : ByteArray), i = .int .i64 (k : Nat) ∧ k ≤ n ∧ x = .string t ∧ y = .string t ∧ t.size ≤ 100 ∧ Kp (fun _ => False) W wr

set_option maxRecDepth 100000 in
set_option maxHeartbeats 4000000 in
theorem chains_walk (W : World) (s : ByteArray) (many : Int) (hs : s.size ≤ 9223372036854775807) : Calls Try.prog 5 #[.string s, .int .i64 many] W fun e w' => e = .returned (.bool true) ∧ Below W.heap.size W w' := by
  obtain ⟨m, hm⟩ : ∃ m : Nat, m = min s.size 100 := ⟨_, rfl⟩
  have hm1 : m ≤ s.size := by omega
  have hm2 : m ≤ 100 := by omega
  obtain ⟨x, hx⟩ : ∃ x, x = s.extract 0 m := ⟨_, rfl⟩
  have hxs : x.size ≤ 100 := by rw [hx, ByteArray.size_extract]; omega
  obtain ⟨n, hn⟩ : ∃ k : Nat, many % 20 = (k : Int) := ⟨(many % 20).toNat, by omega⟩
  have n20 : n < 20 := by omega
  have HM := Lib.hid hm
  have HX := Lib.hid hx.symm
  have HN := Lib.hid hn
  clear hm hx hn
  go_enter Try.func5, Try.ntmps5
  go_wp2_with fail
  refine (sanity_any W).mono ?_
  rintro e w1 ⟨rfl, k1⟩
  have K1 := Lib.hid k1
  clear k1
  go_wp2_with (refine wpList_min rfl (.tmp 12) (.const (.int .i64 100)) #[3, 3] rfl .i64 _ _ (m : Int) rfl rfl (by have := HM.out; omega) ?_)
  rw [HX.out]
  go_loopw [8, 6, 7] (fun i x y wr => ChRel W n i x y wr) (fun i _ _ _ => n - (Go.RowKit.intOf i).toNat)
  case atStart => exact ⟨0, x, rfl, by omega, rfl, rfl, hxs, K1.out⟩
  case round =>
    obtain ⟨k, t, rfl, hk, rfl, rfl, ht, hkp⟩ := hrel
    have HP := Lib.hid hkp
    obtain ⟨H, hH⟩ : ∃ H, H = hashOf t.data.toList := ⟨_, rfl⟩
    have hHl : H.length = 32 := by rw [hH]; exact hashOf_length _
    have HH := Lib.hid hH.symm
    obtain ⟨u, hu⟩ : ∃ u : ByteArray, u = ⟨(textL H).toArray⟩ := ⟨_, rfl⟩
    have hus : u.size ≤ 100 := by rw [hu, size_list]; simp [textL_length, hHl]
    have HU := Lib.hid hu.symm
    clear hkp hH hu
    by_cases h1 : k < n
    · go_wp2_with fail
      refine (mod_any many 20 _ (by omega) (by omega)).mono ?_
      rintro e w' ⟨rfl, rfl⟩
      rw [HN.out]
      go_wp2_with fail
      refine (sum_any t wr (by omega)).mono ?_
      rintro e w2 ⟨rfl, k2⟩
      rw [HH.out]
      have K2 := Lib.hid (HP.out.trans k2 fun _ h => h.elim)
      clear k2
      go_wp2_with fail
      refine (text_any w2 H hHl).mono ?_
      rintro e w3 ⟨rfl, k3⟩
      rw [HU.out]
      have K3 := Lib.hid (K2.out.trans (Below.kp k3) fun _ h => h.elim)
      clear k3
      go_wp2_with fail
      refine (rsum_any t w3 (by omega)).mono ?_
      rintro e w4 ⟨rfl, k4⟩
      rw [HH.out]
      have K4 := Lib.hid (K3.out.trans k4 fun _ h => h.elim)
      clear k4
      go_wp2_with fail
      refine (rtext_any w4 H hHl).mono ?_
      rintro e w5 ⟨rfl, k5⟩
      rw [HU.out]
      have K5 := Lib.hid (K4.out.trans (Below.kp k5) fun _ h => h.elim)
      clear k5
      go_wp2_with fail
      go_roundw
      case rel => exact ⟨k + 1, u, by simp, by omega, rfl, rfl, hus, K5.out⟩
      case measure => simp [Go.RowKit.intOf]; omega
    · go_wp2_with fail
      refine (mod_any many 20 _ (by omega) (by omega)).mono ?_
      rintro e w' ⟨rfl, rfl⟩
      rw [HN.out]
      go_wp2_with fail
      go_ret
      exact ⟨by simp, HP.out.belowS⟩

end Go.Proofs.Ytgkdjcednebgoaa
