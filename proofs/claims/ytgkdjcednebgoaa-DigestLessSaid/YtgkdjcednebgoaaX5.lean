/- Walk: the reference's block. -/
import Derived.Test.YtgkdjcednebgoaaX4
import Derived.StillTailTactics
namespace Go.Proofs.Ytgkdjcednebgoaa
open Go.RowKit Go.Lib

theorem rot_at (x : Nat) (m : Int) (n : Nat) (h1 : 1 ≤ n) (h2 : n ≤ 31) (hm : m = (n : Int)) (w : World) : Calls Try.prog 33 #[.int .u32 (x : Int), .int .i64 m] w fun e w' => e = .returned (.int .u32 (rot32 x n : Nat)) ∧ ∃ j, w' = w.drewN j := by
  subst hm
  exact rot_any x n h1 h2 w

/-- A byte of a string, at an index that fits. -/
theorem run_byte (b : ByteArray) (i : Int) (n : Nat) (hi : i = (n : Int)) (hn : n < b.size) (u : World) : (Instr.index 9 (.string b) (.int .i64 i)).run Try.prog u = .ok (.int .u8 ((byteN b.data.toList n : Nat) : Int)) u := by
  subst hi
  rw [run_index_string u 9 b .i64 (n : Int) Try.underlying9, dif_pos ⟨by omega, by omega⟩]
  have hb : n < b.data.toList.length := by rw [← size_eq]; exact hn
  have e : byteN b.data.toList n = (b[n]'hn).toNat := by
    simp only [byteN, List.getD, List.getElem?_eq_getElem hb, Option.getD_some]
    rfl
  rw [e]
  rfl

theorem word_eq (y0 y1 y2 y3 : Nat) : Go.bits .or .u32 (Go.bits .or .u32 (Go.bits .or .u32 ((y0 : Int) * 16777216) ((y1 : Int) * 65536)) ((y2 : Int) * 256)) (y3 : Int) = ((word32 y0 y1 y2 y3 : Nat) : Int) := by
  rw [word32, ← bits_or32, ← bits_or32, ← bits_or32]
  rfl

theorem eq_t (a c k w : Nat) : ((a : Int) + (c : Int) + (k : Int) + (w : Int)) % 4294967296 = ((add32 (add32 (add32 a c) k) w : Nat) : Int) := by
  simp only [add32]
  omega

theorem eight (st : List Nat) (hst : st.length = 8) : ∃ s0 s1 s2 s3 s4 s5 s6 s7, st = [s0, s1, s2, s3, s4, s5, s6, s7] := by
  match st, hst with
  | [s0, s1, s2, s3, s4, s5, s6, s7], _ => exact ⟨s0, s1, s2, s3, s4, s5, s6, s7, rfl⟩

theorem V8.of_list (st : List Nat) (h : st.length = 8) : (V8.of st).list = st := by
  match st, h with
  | [a, b, c, d, e, f, g, i], _ => rfl

def VRel (w : World) (g : Nat) (W : List Nat) (v : V8) (i : Value) (wr : World) : Prop :=
  ∃ (k : Nat) (x : V8), x = run64 W v k ∧ i = .int .i64 (k : Nat) ∧ k ≤ 64 ∧ wr.heap[g]? = some (.cells (u32Cells x.list).toArray 40 (0, 0)) ∧ Kp (fun k => k = g) w wr

/-- The schedule's loop of the reference: the words' row lies in block g. -/
def TRel (w : World) (g : Nat) (b : List UInt8) (i : Value) (wr : World) : Prop :=
  ∃ k : Nat, i = .int .i64 (k : Nat) ∧ k ≤ 64 ∧ wr.heap[g]? = some (.cells (rowU (sched b k) 64) 58 (0, 0)) ∧ Kp (fun k => k = g) w wr

theorem trel_step {w wr : World} {b : List UInt8} {g k x : Nat} (hrow : wr.heap[g]? = some (.cells (rowU (sched b k) 64) 58 (0, 0)))
    (hkp : Kp (fun k => k = g) w wr) (hk : k < 64) (hx : sched b (k + 1) = sched b k ++ [x]) : TRel w g b (.int .i64 ((k : Int) + 1)) (wr.setCell ⟨g, k, none⟩ (.int .u32 (x : Int))) := by
  have hl := sched_length b k
  refine ⟨k + 1, by simp, by omega, ?_, hkp.trans (Kp.setCell (F := fun j => j = g) wr (a := ⟨g, k, none⟩) _ rfl) fun j hj => .inl hj⟩
  rw [heap_setCell_same wr _ k _ 58 _ hrow, hx]
  have := rowU_set (sched b k) 64 x (by omega)
  rw [hl] at this
  rw [this]

set_option maxRecDepth 100000 in
set_option maxHeartbeats 4000000 in
theorem block_any (w : World) (st : List Nat) (b : ByteArray) (hst : st.length = 8) (hb : b.size = 64) :
    Calls Try.prog 24 #[.agg (u32Cells st).toArray, .string b] w fun e w' => e = .returned (.agg (u32Cells (blockF st b.data.toList)).toArray) ∧ Kp (fun _ => False) w w' := by
  have HIS : Hid ((Try.prog.info? 40).map (·.size) = some (u32Cells st).toArray.size) := Lib.hid (info40.trans (by simp [u32Cells, hst]))
  have HIK : Hid ((Try.prog.info? 58).map (·.size) = some (u32Cells kL).toArray.size) := Lib.hid (info58.trans (by simp [u32Cells, kL]))
  have HZK : Hid (64 = (u32Cells kL).toArray.size) := Lib.hid (by simp [u32Cells, kL])
  go_enter Try.func24, Try.ntmps24
  go_wp2_with fail
  obtain ⟨w0, hw0⟩ : ∃ w0, w0 = (w.alloc (.cells (u32Cells st).toArray 40)).alloc (.cells #[.int .u32 0, .int .u32 0, .int .u32 0, .int .u32 0, .int .u32 0, .int .u32 0, .int .u32 0, .int .u32 0] 40) := ⟨_, rfl⟩
  have T0 : Hid (w0.heap[w.heap.size]? = some (.cells (u32Cells st).toArray 40 (0, 0))) := Lib.hid (by rw [hw0]; exact heap_alloc2_old w _ _)
  have Z0 : Hid (w0.heap[w.heap.size + 1]? = some (.cells (u32Cells [0, 0, 0, 0, 0, 0, 0, 0]).toArray 40 (0, 0))) := Lib.hid (by rw [hw0]; exact heap_alloc2_new w _ _)
  have K0 : Hid (Kp (fun _ => False) w w0) := Lib.hid (by rw [hw0]; exact (Kp.alloc _ w _).trans (Kp.alloc (fun _ => False) _ _) fun _ h => h.elim)
  have hsz : w.heap.size + 2 ≤ w0.heap.size := by rw [hw0]; simp
  rw [← hw0]
  clear hw0
  refine (rrounds_any w0).mono ?_
  rintro e w1 ⟨rfl, q1⟩
  have K1 := Lib.hid q1
  have hsz1 : w.heap.size + 2 ≤ w1.heap.size := by have := q1.size; omega
  clear q1
  go_wp2_with (refine wpList_store_rowK rfl 58 (.tmp 5) (.tmp 17) rfl w1.heap.size (u32Cells kL).toArray rfl rfl 58 _ (heap_alloc_new w1 _) HIK.out HZK.out (oneU32 _) ?_; intro w2 r2 q2; have RK2 := Lib.hid r2; have Q2 := Lib.hid q2; clear r2 q2)
  have K2 : Hid (Kp (fun _ => False) w0 w2) := Lib.hid ((K1.out.trans (Kp.alloc (fun _ => False) w1 _) fun _ h => h.elim).trans Q2.out fun k hk => .inr (by have := K1.out.size; omega))
  have hsz2 : w1.heap.size < w2.heap.size := by have := Q2.out.size; simp at this; omega
  clear Q2 K1
  obtain ⟨w3, hw3⟩ : ∃ w3, w3 = w2.alloc (.cells (rowU [] 64) 58) := ⟨_, rfl⟩
  have e3 : rowU [] 64 = #[.int .u32 0, .int .u32 0, .int .u32 0, .int .u32 0, .int .u32 0, .int .u32 0, .int .u32 0, .int .u32 0, .int .u32 0, .int .u32 0, .int .u32 0, .int .u32 0, .int .u32 0, .int .u32 0, .int .u32 0, .int .u32 0, .int .u32 0, .int .u32 0, .int .u32 0, .int .u32 0, .int .u32 0, .int .u32 0, .int .u32 0, .int .u32 0, .int .u32 0, .int .u32 0, .int .u32 0, .int .u32 0, .int .u32 0, .int .u32 0, .int .u32 0, .int .u32 0, .int .u32 0, .int .u32 0, .int .u32 0, .int .u32 0, .int .u32 0, .int .u32 0, .int .u32 0, .int .u32 0, .int .u32 0, .int .u32 0, .int .u32 0, .int .u32 0, .int .u32 0, .int .u32 0, .int .u32 0, .int .u32 0, .int .u32 0, .int .u32 0, .int .u32 0, .int .u32 0, .int .u32 0, .int .u32 0, .int .u32 0, .int .u32 0, .int .u32 0, .int .u32 0, .int .u32 0, .int .u32 0, .int .u32 0, .int .u32 0, .int .u32 0, .int .u32 0] := rfl
  have R3 : Hid (w3.heap[w2.heap.size]? = some (.cells (rowU [] 64) 58 (0, 0))) := Lib.hid (by rw [hw3]; exact heap_alloc_new w2 _)
  have K3 : Hid (Kp (fun _ => False) w2 w3) := Lib.hid (by rw [hw3]; exact Kp.alloc _ _ _)
  rw [e3] at hw3
  rw [← hw3]
  clear hw3 e3
  go_loopw [7] (fun i wr => TRel w3 w2.heap.size b.data.toList i wr) (fun i _ => 64 - (intOf i).toNat)
  case atStart => exact ⟨0, rfl, by omega, R3.out, Kp.refl _ _⟩
  case round =>
    obtain ⟨k, rfl, hk, hrow, hkp⟩ := hrel
    have HR := Lib.hid hrow
    have HK := Lib.hid hkp
    clear hrow hkp
    have l64 : (k : Int) ≤ 64 := by omega
    by_cases h1 : k < 64
    · have hlen := sched_length b.data.toList k
      obtain ⟨P, hP⟩ : ∃ P, P = sched b.data.toList k := ⟨_, rfl⟩
      have hrw := HR.out
      rw [← hP] at hrw hlen
      have hcell : ∃ v, wr.cell? ⟨w2.heap.size, k, none⟩ = some v := by
        rw [cell_of_row _ _ _ _ _ _ hrw]
        exact ⟨(rowU P 64)[k]'(by rw [rowU_size _ _ (by omega)]; exact h1), by simp [rowU_size _ 64 (show P.length ≤ 64 by omega), h1]⟩
      obtain ⟨v0, hc0⟩ := hcell
      have hf0 := frozen_of_row wr w2.heap.size k _ _ hrw
      by_cases h2 : k < 16
      · clear hP hlen hrw
        have h3 : 4 * k + 3 < b.size := by omega
        have hor := bits_or32
        have hw0 : IntKind.i64.wrap (4 * (k : Int)) = 4 * (k : Int) := IntWalk.i64_in _ (by omega)
        have hw1 : IntKind.i64.wrap (4 * (k : Int) + 1) = 4 * (k : Int) + 1 := IntWalk.i64_in _ (by omega)
        have hw2 : IntKind.i64.wrap (4 * (k : Int) + 2) = 4 * (k : Int) + 2 := IntWalk.i64_in _ (by omega)
        have hw3 : IntKind.i64.wrap (4 * (k : Int) + 3) = 4 * (k : Int) + 3 := IntWalk.i64_in _ (by omega)
        have hi0 := run_byte b (4 * (k : Int)) (4 * k) (by omega) (by omega)
        have hi1 := run_byte b (4 * (k : Int) + 1) (4 * k + 1) (by omega) (by omega)
        have hi2 := run_byte b (4 * (k : Int) + 2) (4 * k + 2) (by omega) (by omega)
        have hi3 := run_byte b (4 * (k : Int) + 3) (4 * k + 3) (by omega) (by omega)
        obtain ⟨y0, hy0⟩ : ∃ y, byteN b.data.toList (4 * k) = y := ⟨_, rfl⟩
        obtain ⟨y1, hy1⟩ : ∃ y, byteN b.data.toList (4 * k + 1) = y := ⟨_, rfl⟩
        obtain ⟨y2, hy2⟩ : ∃ y, byteN b.data.toList (4 * k + 2) = y := ⟨_, rfl⟩
        obtain ⟨y3, hy3⟩ : ∃ y, byteN b.data.toList (4 * k + 3) = y := ⟨_, rfl⟩
        have z0 : (y0 : Int) < 256 := by have := byteN_lt b.data.toList (4 * k); omega
        have z1 : (y1 : Int) < 256 := by have := byteN_lt b.data.toList (4 * k + 1); omega
        have z2 : (y2 : Int) < 256 := by have := byteN_lt b.data.toList (4 * k + 2); omega
        have z3 : (y3 : Int) < 256 := by have := byteN_lt b.data.toList (4 * k + 3); omega
        have ww0 : IntKind.u32.wrap (y0 : Int) = y0 := by rw [IntKind.wrap_u32']; omega
        have ww1 : IntKind.u32.wrap (y1 : Int) = y1 := by rw [IntKind.wrap_u32']; omega
        have ww2 : IntKind.u32.wrap (y2 : Int) = y2 := by rw [IntKind.wrap_u32']; omega
        have ww3 : IntKind.u32.wrap (y3 : Int) = y3 := by rw [IntKind.wrap_u32']; omega
        have wv0 : IntKind.u32.wrap ((y0 : Int) * 16777216) = y0 * 16777216 := by rw [IntKind.wrap_u32']; omega
        have wv1 : IntKind.u32.wrap ((y1 : Int) * 65536) = y1 * 65536 := by rw [IntKind.wrap_u32']; omega
        have wv2 : IntKind.u32.wrap ((y2 : Int) * 256) = y2 * 256 := by rw [IntKind.wrap_u32']; omega
        rw [hy0] at hi0
        rw [hy1] at hi1
        rw [hy2] at hi2
        rw [hy3] at hi3
        have HX : Hid (sched b.data.toList (k + 1) = sched b.data.toList k ++ [word32 y0 y1 y2 y3]) := Lib.hid (by rw [sched, if_pos h2, wordAt, hy0, hy1, hy2, hy3])
        clear hy0 hy1 hy2 hy3 hor
        go_wp2_with fail
        go_still_tail 31, (by kernel_rfl)
        show wpList _ _ _ _ _ wr.drew
        go_wp2_with fail
        go_roundw
        case rel =>
          rw [word_eq y0 y1 y2 y3]
          exact trel_step (wr := wr.drew) HR.out (HK.out.trans (Kp.drew (fun _ => False) _) fun _ h => h.elim) h1 HX.out
        case measure => simp [intOf]; omega
      · have c15 : wr.cell? ⟨w2.heap.size, k - 15, none⟩ = some (.int .u32 ((P.getD (k - 15) 0 : Nat) : Int)) := by rw [cell_of_row _ _ _ _ _ _ hrw]; exact rowU_get P 64 (k - 15) (by omega) (by omega)
        have c2 : wr.cell? ⟨w2.heap.size, k - 2, none⟩ = some (.int .u32 ((P.getD (k - 2) 0 : Nat) : Int)) := by rw [cell_of_row _ _ _ _ _ _ hrw]; exact rowU_get P 64 (k - 2) (by omega) (by omega)
        have c16 : wr.cell? ⟨w2.heap.size, k - 16, none⟩ = some (.int .u32 ((P.getD (k - 16) 0 : Nat) : Int)) := by rw [cell_of_row _ _ _ _ _ _ hrw]; exact rowU_get P 64 (k - 16) (by omega) (by omega)
        have c7 : wr.cell? ⟨w2.heap.size, k - 7, none⟩ = some (.int .u32 ((P.getD (k - 7) 0 : Nat) : Int)) := by rw [cell_of_row _ _ _ _ _ _ hrw]; exact rowU_get P 64 (k - 7) (by omega) (by omega)
        obtain ⟨x15, h15⟩ : ∃ x, x = P.getD (k - 15) 0 := ⟨_, rfl⟩
        obtain ⟨x2, hx2⟩ : ∃ x, x = P.getD (k - 2) 0 := ⟨_, rfl⟩
        obtain ⟨x16, h16⟩ : ∃ x, x = P.getD (k - 16) 0 := ⟨_, rfl⟩
        obtain ⟨x7, h7⟩ : ∃ x, x = P.getD (k - 7) 0 := ⟨_, rfl⟩
        rw [← h15] at c15
        rw [← hx2] at c2
        rw [← h16] at c16
        rw [← h7] at c7
        have HX : Hid (sched b.data.toList (k + 1) = sched b.data.toList k ++ [add32 (add32 (add32 x16 (s0 x15)) x7) (s1 x2)]) := by
          apply Lib.hid
          rw [sched, if_neg h2, nextW, ← hP, h15, hx2, h16, h7]
        clear hlen hrw hP h15 hx2 h16 h7
        have hxr := bits_xor32
        have had := wrap_add32
        have hs8 : (x15 : Int) / 8 = ((shr32 x15 3 : Nat) : Int) := by simp [shr32]
        have hs10 : (x2 : Int) / 1024 = ((shr32 x2 10 : Nat) : Int) := by simp [shr32]
        have l16 : (16 : Int) ≤ k := by omega
        have l7 : (7 : Int) ≤ k := by omega
        have l65 : (k : Int) < 64 := by omega
        go_wp2_with fail
        have hw16 : IntKind.i64.wrap ((k : Int) - 16) = (k : Int) - 16 := IntWalk.i64_in _ (by omega)
        have hw7 : IntKind.i64.wrap ((k : Int) - 7) = (k : Int) - 7 := IntWalk.i64_in _ (by omega)
        have n16 : (0 : Int) ≤ (k : Int) - 16 := by omega
        have n7 : (0 : Int) ≤ (k : Int) - 7 := by omega
        have m16 : (k : Int) - 16 < 64 := by omega
        have m7 : (k : Int) - 7 < 64 := by omega
        have t16 : ((k : Int) - 16).toNat = k - 16 := by omega
        have t7 : ((k : Int) - 7).toNat = k - 7 := by omega
        have d16 : ∀ i, (wr.drewN i).cell? ⟨w2.heap.size, k - 16, none⟩ = some (.int .u32 (x16 : Int)) := fun _ => c16
        have d7 : ∀ i, (wr.drewN i).cell? ⟨w2.heap.size, k - 7, none⟩ = some (.int .u32 (x7 : Int)) := fun _ => c7
        go_region_held3 (fun w' => w'.cell? ⟨w2.heap.size, k - 16, none⟩ = some (.int .u32 (x16 : Int)) ∧ w'.cell? ⟨w2.heap.size, k - 7, none⟩ = some (.int .u32 (x7 : Int)))
          (first | go_keep | exact ⟨d16 _, d7 _⟩ | exact ⟨(World.cell?_setCell_other _ _ _ _ (fun e => by simp at e <;> omega)).trans c16, (World.cell?_setCell_other _ _ _ _ (fun e => by simp at e <;> omega)).trans c7⟩)
          ((go_at_call 33; first
            | ((with_reducible refine (rot_at x15 7 7 (by omega) (by omega) rfl _).mono ?_); rintro e w' ⟨rfl, jj, rfl⟩)
            | ((with_reducible refine (rot_at x15 18 18 (by omega) (by omega) rfl _).mono ?_); rintro e w' ⟨rfl, jj, rfl⟩)
            | ((with_reducible refine (rot_at x2 17 17 (by omega) (by omega) rfl _).mono ?_); rintro e w' ⟨rfl, jj, rfl⟩)
            | ((with_reducible refine (rot_at x2 19 19 (by omega) (by omega) rfl _).mono ?_); rintro e w' ⟨rfl, jj, rfl⟩)))
        go_wp2_with fail
        go_roundw
        case rel =>
          exact trel_step (wr := wr.drewN _) HR.out (HK.out.trans (Kp.drewN (fun _ => False) wr _) fun _ h => h.elim) h1 HX.out
        case measure => simp [intOf]; omega
    · obtain rfl : k = 64 := by omega
      obtain ⟨w4, rfl⟩ : ∃ w4 : World, w4 = wr := ⟨_, rfl⟩
      obtain ⟨W, hW⟩ : ∃ W, W = sched b.data.toList 64 := ⟨_, rfl⟩
      have hWl : W.length = 64 := by rw [hW]; exact sched_length _ 64
      have hr := HR.out
      rw [← hW, rowU_full _ _ hWl] at hr
      have HW := Lib.hid hW
      have Q4 : Hid (Kp (fun k => k = w2.heap.size) w2 w4) := Lib.hid ((K3.out.mono (G := fun k => k = w2.heap.size) fun _ h => h.elim).trans HK.out fun k hk => .inl hk)
      have sz4 := Q4.out.size
      have RW := Lib.hid hr
      have RK : Hid (w4.heap[w1.heap.size]? = some (.cells (u32Cells kL).toArray 58 (0, 0))) := Lib.hid (Q4.out.heap RK2.out (by omega))
      have T4 : Hid (w4.heap[w.heap.size]? = some (.cells (u32Cells st).toArray 40 (0, 0))) := Lib.hid (Q4.out.heap (K2.out.heap T0.out (fun h => h)) (by omega))
      have Z4 : Hid (w4.heap[w.heap.size + 1]? = some (.cells (u32Cells [0, 0, 0, 0, 0, 0, 0, 0]).toArray 40 (0, 0))) := Lib.hid (Q4.out.heap (K2.out.heap Z0.out (fun h => h)) (by omega))
      have K4 : Hid (Kp (fun _ => False) w w4) := Lib.hid (((K0.out.trans K2.out fun _ h => h.elim)).trans Q4.out fun k hk => .inr (by have := K0.out.size; have := K2.out.size; omega))
      have HZS : Hid (8 = (u32Cells st).toArray.size) := Lib.hid (by simp [u32Cells, hst])
      clear hW hr HR HK Q4 K3 R3 K2 RK2 T0 Z0 K0 h1 HIK HZK
      go_wp2_with (first
        | (refine wpList_load_row rfl 40 (.tmp 2) rfl w.heap.size rfl 40 _ (0, 0) _ T4.out Try.underlying40 rfl HIS.out ?_)
        | (refine wpList_store_rowK rfl 40 (.tmp 10) (.tmp 92) rfl w4.heap.size (u32Cells st).toArray rfl rfl 40 _ (heap_alloc_new w4 _) HIS.out HZS.out (oneU32 _) ?_; intro w5 r5 q5; have R5 := Lib.hid r5; have Q5 := Lib.hid q5; clear r5 q5))
      have g5 : w4.heap.size < w5.heap.size := by have := Q5.out.size; simp at this; omega
      have K5 : Hid (Kp (fun _ => False) w4 w5) := Lib.hid ((Kp.alloc (fun _ => False) w4 _).trans Q5.out fun k hk => .inr (by omega))
      have l2 : w.heap.size + 2 ≤ w4.heap.size := by have := K4.out.size; omega
      clear Q5
      have TV : V8.of st = V8.of st := rfl
      clear TV
      go_wp2_with fail
      go_loopw [11] (fun i wx => VRel w5 w4.heap.size W (V8.of st) i wx) (fun i _ => 64 - (intOf i).toNat)
      case atStart =>
        refine ⟨0, _, rfl, rfl, by omega, ?_, Kp.refl _ _⟩
        rw [run64, V8.of_list st hst]
        exact R5.out
      case round =>
        obtain ⟨k, x, hx, rfl, hk, hrow, hkp⟩ := hrel
        have HX := Lib.hid hx
        have HV := Lib.hid hrow
        have HK := Lib.hid hkp
        clear hx hrow hkp
        have lw : w2.heap.size < w4.heap.size := (Array.getElem?_eq_some_iff.1 RW.out).1
        have lk : w1.heap.size < w4.heap.size := (Array.getElem?_eq_some_iff.1 RK.out).1
        by_cases h1 : k < 64
        · have hHK := HK.out
          have cw : wr.cell? ⟨w2.heap.size, k, none⟩ = some (.int .u32 ((W.getD k 0 : Nat) : Int)) := by rw [cell_of_row _ _ _ _ _ _ (hHK.heap (K5.out.heap RW.out (fun h => h)) (by omega))]; exact u32Cells_get W k (by omega)
          have ck : wr.cell? ⟨w1.heap.size, k, none⟩ = some (.int .u32 ((kL.getD k 0 : Nat) : Int)) := by rw [cell_of_row _ _ _ _ _ _ (hHK.heap (K5.out.heap RK.out (fun h => h)) (by omega))]; exact u32Cells_get kL k (by simpa [kL] using h1)
          clear hHK
          obtain ⟨wk, hwk⟩ : ∃ y, y = W.getD k 0 := ⟨_, rfl⟩
          obtain ⟨kk, hkk⟩ : ∃ y, y = kL.getD k 0 := ⟨_, rfl⟩
          rw [← hwk] at cw
          rw [← hkk] at ck
          have HXN : Hid (run64 W (V8.of st) (k + 1) = step x kk wk) := Lib.hid (by rw [run64, ← HX.out, hwk, hkk])
          clear hwk hkk
          have hxr := bits_xor32
          have had := wrap_add32
          have han := bits_and32
          have hnt := bits_not32
          obtain ⟨xa, xb, xc, xd, xe, xf, xg, xh⟩ := x
          have c0 : wr.cell? ⟨w4.heap.size, 0, none⟩ = some (.int .u32 (xa : Int)) := cell_of_row _ _ 0 _ _ _ HV.out
          have c1 : wr.cell? ⟨w4.heap.size, 1, none⟩ = some (.int .u32 (xb : Int)) := cell_of_row _ _ 1 _ _ _ HV.out
          have c2 : wr.cell? ⟨w4.heap.size, 2, none⟩ = some (.int .u32 (xc : Int)) := cell_of_row _ _ 2 _ _ _ HV.out
          have c3 : wr.cell? ⟨w4.heap.size, 3, none⟩ = some (.int .u32 (xd : Int)) := cell_of_row _ _ 3 _ _ _ HV.out
          have c4 : wr.cell? ⟨w4.heap.size, 4, none⟩ = some (.int .u32 (xe : Int)) := cell_of_row _ _ 4 _ _ _ HV.out
          have c5 : wr.cell? ⟨w4.heap.size, 5, none⟩ = some (.int .u32 (xf : Int)) := cell_of_row _ _ 5 _ _ _ HV.out
          have c6 : wr.cell? ⟨w4.heap.size, 6, none⟩ = some (.int .u32 (xg : Int)) := cell_of_row _ _ 6 _ _ _ HV.out
          have c7 : wr.cell? ⟨w4.heap.size, 7, none⟩ = some (.int .u32 (xh : Int)) := cell_of_row _ _ 7 _ _ _ HV.out
          have k8 : (k : Int) < 64 := by omega
          have k0 : (0 : Int) ≤ k := by omega
          go_wp2_with fail
          go_quiet ((go_at_call 33; first
            | (with_reducible exact Calls.quiet_of (rot_at xe 6 6 (by omega) (by omega) rfl _))
            | (with_reducible exact Calls.quiet_of (rot_at xe 11 11 (by omega) (by omega) rfl _))
            | (with_reducible exact Calls.quiet_of (rot_at xe 25 25 (by omega) (by omega) rfl _))))
          go_wp2_with fail
          rw [eq_t]
          obtain ⟨wx, hwx⟩ : ∃ wx, wx = wr.drewN nq := ⟨_, rfl⟩
          rw [← hwx]
          have KX : Hid (Kp (fun _ => False) wr wx) := Lib.hid (by rw [hwx]; exact Kp.drewN _ _ _)
          have HVX : Hid (wx.heap[w4.heap.size]? = _) := Lib.hid (KX.out.heap HV.out (fun h => h))
          clear hwx c0 c1 c2 c3 c4 c5 c6 c7 cw ck
          have c0 : wx.cell? ⟨w4.heap.size, 0, none⟩ = some (.int .u32 (xa : Int)) := cell_of_row _ _ 0 _ _ _ HVX.out
          have c1 : wx.cell? ⟨w4.heap.size, 1, none⟩ = some (.int .u32 (xb : Int)) := cell_of_row _ _ 1 _ _ _ HVX.out
          have c2 : wx.cell? ⟨w4.heap.size, 2, none⟩ = some (.int .u32 (xc : Int)) := cell_of_row _ _ 2 _ _ _ HVX.out
          have c3 : wx.cell? ⟨w4.heap.size, 3, none⟩ = some (.int .u32 (xd : Int)) := cell_of_row _ _ 3 _ _ _ HVX.out
          have c4 : wx.cell? ⟨w4.heap.size, 4, none⟩ = some (.int .u32 (xe : Int)) := cell_of_row _ _ 4 _ _ _ HVX.out
          have c5 : wx.cell? ⟨w4.heap.size, 5, none⟩ = some (.int .u32 (xf : Int)) := cell_of_row _ _ 5 _ _ _ HVX.out
          have c6 : wx.cell? ⟨w4.heap.size, 6, none⟩ = some (.int .u32 (xg : Int)) := cell_of_row _ _ 6 _ _ _ HVX.out
          go_quiet ((go_at_call 33; first
            | (with_reducible exact Calls.quiet_of (rot_at xa 2 2 (by omega) (by omega) rfl _))
            | (with_reducible exact Calls.quiet_of (rot_at xa 13 13 (by omega) (by omega) rfl _))
            | (with_reducible exact Calls.quiet_of (rot_at xa 22 22 (by omega) (by omega) rfl _))))
          go_wp2_with (refine wpList_store_rowK rfl 40 (.tmp 10) (.tmp 174) rfl w4.heap.size (u32Cells (step ⟨xa, xb, xc, xd, xe, xf, xg, xh⟩ kk wk).list).toArray rfl rfl 40 _ (show (wx.drewN nq).heap[w4.heap.size]? = _ from HVX.out) (info40.trans rfl) rfl (oneU32 _) ?_; intro w6 r6 q6; have R6 := Lib.hid r6; have Q6 := Lib.hid q6; clear r6 q6)
          go_roundw
          case rel => exact ⟨k + 1, _, HXN.out.symm, by simp, by omega, R6.out, ((HK.out.trans KX.out fun _ h => h.elim).trans (Kp.drewN (fun _ => False) _ _) fun _ h => h.elim).trans Q6.out fun k hk => .inl hk⟩
          case measure => simp [intOf]; omega
        · obtain rfl : k = 64 := by omega
          obtain ⟨xa, xb, xc, xd, xe, xf, xg, xh⟩ := x
          obtain ⟨w6, rfl⟩ : ∃ w6 : World, w6 = wr := ⟨_, rfl⟩
          obtain ⟨s0, s1, s2, s3, s4, s5, s6, s7, hst8⟩ := eight st hst
          have T6 : Hid (w6.heap[w.heap.size]? = some (.cells (u32Cells [s0, s1, s2, s3, s4, s5, s6, s7]).toArray 40 (0, 0))) := Lib.hid (by rw [← hst8]; exact HK.out.heap (K5.out.heap T4.out (fun h => h)) (by omega))
          have Z6 : Hid (w6.heap[w.heap.size + 1]? = some (.cells (u32Cells [0, 0, 0, 0, 0, 0, 0, 0]).toArray 40 (0, 0))) := Lib.hid (HK.out.heap (K5.out.heap Z4.out (fun h => h)) (by omega))
          have K6 : Hid (Kp (fun _ => False) w w6) := Lib.hid ((K4.out.trans K5.out fun _ h => h.elim).trans HK.out fun k hk => .inr (by omega))
          have HST := Lib.hid hst8
          clear hst8
          have had := wrap_add32
          go_wp2_with fail
          go_loopw [16] (fun i wy => LRel w6 w.heap.size [s0, s1, s2, s3, s4, s5, s6, s7] [xa, xb, xc, xd, xe, xf, xg, xh] i wy) (fun i _ => 8 - (intOf i).toNat)
          case atStart => exact ⟨0, rfl, by omega, T6.out, Kp.refl _ _⟩
          case round =>
            obtain ⟨k, rfl, hk, hrow, hkp⟩ := hrel
            have HR := Lib.hid hrow
            have HP := Lib.hid hkp
            clear hrow hkp
            by_cases h1 : k < 8
            · obtain ⟨y, hy⟩ : ∃ y, [xa, xb, xc, xd, xe, xf, xg, xh].getD k 0 = y := ⟨_, rfl⟩
              obtain ⟨v, hv⟩ : ∃ v, [s0, s1, s2, s3, s4, s5, s6, s7].getD k 0 = v := ⟨_, rfl⟩
              have cv : wr.cell? ⟨w.heap.size, k, none⟩ = some (.int .u32 (v : Int)) := by rw [cell_of_row _ _ _ _ _ _ HR.out, ← hv]; exact sumK_get _ _ _ _ _ _ _ _ _ _ _ _ _ _ _ _ k h1
              have cy : wr.cell? ⟨w4.heap.size, k, none⟩ = some (.int .u32 (y : Int)) := by rw [cell_of_row _ _ _ _ _ _ (HP.out.heap HV.out (by omega)), ← hy]; exact u32Cells_get [xa, xb, xc, xd, xe, xf, xg, xh] k (by simpa using h1)
              have fv := frozen_of_row wr w.heap.size k _ _ HR.out
              have HY := Lib.hid hy
              have HV2 := Lib.hid hv
              clear hv hy
              have k8 : (k : Int) < 8 := by omega
              have k0 : (0 : Int) ≤ k := by omega
              go_wp2_with fail
              go_region
              all_goals
                go_wp2_with fail
                go_roundw
                case rel => exact lrel_step (wr := wr.drew) HR.out (HP.out.trans (Kp.drew (fun _ => False) _) fun _ h => h.elim) h1 HV2.out HY.out
                case measure => simp [intOf]; omega
            · obtain rfl : k = 8 := by omega
              obtain ⟨F, hF⟩ : ∃ F, F = blockF st b.data.toList := ⟨_, rfl⟩
              have e : F = sumK [s0, s1, s2, s3, s4, s5, s6, s7] [xa, xb, xc, xd, xe, xf, xg, xh] 8 := by
                rw [hF, blockF, ← HW.out, ← HX.out, HST.out]
                rfl
              have hFl : F.length = 8 := by rw [e]; rfl
              have RF : Hid (wr.heap[w.heap.size]? = some (.cells (u32Cells F).toArray 40 (0, 0))) := Lib.hid (by rw [e]; exact HR.out)
              have ZF : Hid (wr.heap[w.heap.size + 1]? = some (.cells (u32Cells [0, 0, 0, 0, 0, 0, 0, 0]).toArray 40 (0, 0))) := Lib.hid (HP.out.heap Z6.out (by omega))
              have HIF : Hid ((Try.prog.info? 40).map (·.size) = some (u32Cells F).toArray.size) := Lib.hid (info40.trans (by simp [u32Cells, hFl]))
              have HZF : Hid ((u32Cells [0, 0, 0, 0, 0, 0, 0, 0]).toArray.size = (u32Cells F).toArray.size) := Lib.hid (by simp [u32Cells, hFl])
              have HF := Lib.hid hF
              clear hF e hFl HR
              go_wp2_with (first
                | (refine wpList_load_row rfl 40 (.tmp 2) rfl w.heap.size rfl 40 _ (0, 0) _ RF.out Try.underlying40 rfl HIF.out ?_)
                | (refine wpList_store_row rfl 40 (.tmp 4) (.tmp 188) rfl (w.heap.size + 1) (u32Cells F).toArray rfl rfl 40 _ ZF.out HIF.out HZF.out (oneU32 _) ?_))
              refine bodyPost_ret (v := .agg (u32Cells F).toArray) (results_cell_row rfl _ _ (w.heap.size + 1) 40 _ (0, 0) _ rfl (setRow_heap _ _ _ _ _ _ ZF.out) Try.underlying40 rfl HIF.out) rfl ⟨by rw [HF.out], ?_⟩
              exact (K6.out.trans HP.out fun k hk => .inr (by omega)).trans (kp_setRow (F := fun k => k = w.heap.size + 1) _ _ _ rfl) fun k hk => .inr (by omega)

end Go.Proofs.Ytgkdjcednebgoaa
