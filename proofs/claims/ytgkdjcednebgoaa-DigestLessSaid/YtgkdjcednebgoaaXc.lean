/- Walks: Text, and the reference's. -/
import Derived.Test.YtgkdjcednebgoaaXa
import Derived.Test.YtgkdjcednebgoaaXb
namespace Go.Proofs.Ytgkdjcednebgoaa
open Go.RowKit Go.Lib

def digB : ByteArray := ⟨#[48, 49, 50, 51, 52, 53, 54, 55, 56, 57, 97, 98, 99, 100, 101, 102]⟩
def hexC (n : Nat) : UInt8 := digB.data.toList.getD n 0
def hex2 (b : UInt8) : List UInt8 := [hexC (b.toNat / 16), hexC (b.toNat % 16)]
def textL (h : List UInt8) : List UInt8 := h.flatMap hex2

theorem run_arr (h : List UInt8) (hl : h.length = 32) (k : Nat) (hk : k < 32) (u : World) : (Instr.index 24 (.agg (byteCells h).toArray) (.int .i64 (k : Int))).run Try.prog u = .ok (.int .u8 ((h.getD k 0).toNat : Int)) u := by
  obtain ⟨i0, hi, hz0, hz1, hz2⟩ := info_parts Try.info5
  have hb : (0 : Int) ≤ (k : Int) ∧ (k : Int) < 32 := by omega
  have hu : (Instr.index 24 (.agg (byteCells h).toArray) (.int .i64 (k : Int))).run Try.prog u = (part 5 (byteCells h).toArray k).run Try.prog u := by
    simp [Instr.index, run_underlying Try.underlying24, asIntOf, hb, sizeOf, typeInfo, hi, hz1, go_sem]
    intro h
    omega
  rw [hu]
  simp [part, isAgg, run_underlying Try.underlying5, sizeOf, typeInfo, hi, hz1, go_sem, byteCells, List.getD, show k < h.length by omega]

theorem run_dig (n : Nat) (i : Int) (hi : i = (n : Int)) (hn : n < 16) (u : World) : (Instr.index 9 (.string ⟨#[48, 49, 50, 51, 52, 53, 54, 55, 56, 57, 97, 98, 99, 100, 101, 102]⟩) (.int .u8 i)).run Try.prog u = .ok (.int .u8 ((hexC n).toNat : Int)) u := by
  subst hi
  have hs : (⟨#[48, 49, 50, 51, 52, 53, 54, 55, 56, 57, 97, 98, 99, 100, 101, 102]⟩ : ByteArray).size = 16 := rfl
  rw [run_index_string u 9 _ .u8 (n : Int) Try.underlying9, dif_pos ⟨by omega, by rw [hs]; omega⟩]
  have hk : n = 0 ∨ n = 1 ∨ n = 2 ∨ n = 3 ∨ n = 4 ∨ n = 5 ∨ n = 6 ∨ n = 7 ∨ n = 8 ∨ n = 9 ∨ n = 10 ∨ n = 11 ∨ n = 12 ∨ n = 13 ∨ n = 14 ∨ n = 15 := by omega
  rcases hk with rfl | rfl | rfl | rfl | rfl | rfl | rfl | rfl | rfl | rfl | rfl | rfl | rfl | rfl | rfl | rfl <;> rfl

theorem run_cut (n : Nat) (i j : Int) (hi : i = (n : Int)) (hj : j = (n : Int) + 1) (hn : n < 16) (u : World) :
    (Instr.slice 9 (.string ⟨#[48, 49, 50, 51, 52, 53, 54, 55, 56, 57, 97, 98, 99, 100, 101, 102]⟩) (some (.int .u8 i)) (some (.int .u8 j)) none).run Try.prog u = .ok (.string ⟨#[hexC n]⟩) u := by
  subst hi hj
  have hk : n = 0 ∨ n = 1 ∨ n = 2 ∨ n = 3 ∨ n = 4 ∨ n = 5 ∨ n = 6 ∨ n = 7 ∨ n = 8 ∨ n = 9 ∨ n = 10 ∨ n = 11 ∨ n = 12 ∨ n = 13 ∨ n = 14 ∨ n = 15 := by omega
  rcases hk with rfl | rfl | rfl | rfl | rfl | rfl | rfl | rfl | rfl | rfl | rfl | rfl | rfl | rfl | rfl | rfl <;> rfl

def TRel2 (w : World) (b : Nat) (h : List UInt8) (i : Value) (wr : World) : Prop :=
  ∃ k : Nat, i = .int .i64 (k : Nat) ∧ k ≤ 32 ∧ Lib.IsBuilder 51 5 w.heap.size b (byteCells (textL (h.take k))) wr ∧ Below w.heap.size w wr

set_option maxRecDepth 100000 in
set_option maxHeartbeats 2000000 in
theorem text_any (w : World) (h : List UInt8) (hl : h.length = 32) : Calls Try.prog 15 #[.agg (byteCells h).toArray] w fun e w' => e = .returned (.string ⟨(textL h).toArray⟩) ∧ Below w.heap.size w w' := by
  have HI : Hid ((Try.prog.info? 24).map (·.size) = some (byteCells h).toArray.size) := Lib.hid (info24.trans (by simp [byteCells, hl]))
  go_enter Try.func15, Try.ntmps15
  go_wp2_with (refine wpList_load_row rfl 24 (.tmp 1) rfl w.heap.size rfl 24 _ (0, 0) _ (heap_alloc2_old w _ _) Try.underlying24 rfl HI.out ?_)
  go_loopw [7] (fun i wr => TRel2 w (w.heap.size + 1) h i wr) (fun i _ => 32 - (Go.RowKit.intOf i).toNat)
  case atStart =>
    refine ⟨0, rfl, by omega, .inl ⟨by omega, .slice none 0 0, heap_alloc2_new w _ _, World.ownsRow_nil _ _ _ _, by simp [Value.ownBlock]⟩, ((Below.refl _ w).alloc (Nat.le_refl _) _).alloc (by simp) _⟩
  case round =>
    obtain ⟨k, rfl, hk, hbu, hbl⟩ := hrel
    have HB := Lib.hid hbu
    have HL := Lib.hid hbl
    have hz := hbl.size
    clear hbu hbl
    by_cases h1 : k < 32
    · obtain ⟨y, hy⟩ : ∃ y, h.getD k 0 = y := ⟨_, rfl⟩
      have hix := run_arr h hl k h1
      rw [hy] at hix
      have hy256 : (y.toNat : Int) < 256 := by have := UInt8.toNat_lt y; omega
      have hT : textL (h.take (k + 1)) = textL (h.take k) ++ [hexC (y.toNat / 16)] ++ [hexC (y.toNat % 16)] := by
        have eg : h.getD k 0 = h[k]'(by omega) := by simp [List.getD, show k < h.length by omega]
        rw [List.take_succ_eq_append_getElem (by omega : k < h.length), textL, List.flatMap_append, ← hy, eg]
        simp [textL, hex2]
      have hd1 := run_dig (y.toNat / 16) ((y.toNat : Int) / 16) (by simp) (by omega)
      have hd2 := run_dig (y.toNat % 16) ((y.toNat : Int) % 16) (by simp) (by omega)
      obtain ⟨p1, hp1⟩ : ∃ p, hexC (y.toNat / 16) = p := ⟨_, rfl⟩
      obtain ⟨p2, hp2⟩ : ∃ p, hexC (y.toNat % 16) = p := ⟨_, rfl⟩
      rw [hp1] at hd1
      rw [hp2] at hd2
      have hll : (textL (h.take k)).length ≤ 64 := by
        have : ∀ l : List UInt8, (textL l).length = 2 * l.length := by
          intro l
          induction l with
          | nil => rfl
          | cons a l ih => simp [textL, hex2] at ih ⊢; omega
        rw [this, List.length_take]; omega
      have HT := Lib.hid hT
      have HP1 := Lib.hid hp1
      have HP2 := Lib.hid hp2
      clear hT hp1 hp2 hy
      go_wp2_with fail
      refine (wbyte_any w.heap.size (w.heap.size + 1) (byteCells (textL (h.take k))) (p1.toNat : Int) wr HB.out (by rw [byteCells_length]; omega) (by omega)).mono ?_
      rintro e w1 ⟨rfl, b1, l1⟩
      have B1 := Lib.hid b1
      have L1 := Lib.hid (HL.out.trans l1)
      have z1 := l1.size
      clear b1 l1
      go_wp2_with fail
      refine (wbyte_any w.heap.size (w.heap.size + 1) _ (p2.toNat : Int) w1 B1.out (by simp [byteCells_length]; omega) (by omega)).mono ?_
      rintro e w2 ⟨rfl, b2, l2⟩
      have B2 := Lib.hid b2
      have L2 := Lib.hid (L1.out.trans l2)
      clear b2 l2
      go_wp2_with fail
      go_roundw
      case rel =>
        refine ⟨k + 1, by simp, by omega, ?_, L2.out⟩
        rw [HT.out, HP1.out, HP2.out, byteCells_append, byteCells_append]
        exact B2.out
      case measure => simp [Go.RowKit.intOf]; omega
    · obtain rfl : k = 32 := by omega
      have hb := HB.out
      rw [List.take_of_length_le (by omega)] at hb
      have HB2 := Lib.hid hb
      have hne : textL h ≠ [] := by
        match h, hl with
        | a :: _, _ => simp [textL, hex2]
      clear hb HB
      go_wp2_with fail
      refine (bstring_any w.heap.size (w.heap.size + 1) (textL h) wr HB2.out hne).mono ?_
      rintro e w1 ⟨rfl, l1⟩
      have L1 := Lib.hid (HL.out.trans l1)
      clear l1
      go_wp2_with fail
      go_ret
      exact ⟨rfl, L1.out⟩

def RTRel (w : World) (h : List UInt8) (i t : Value) (wr : World) : Prop :=
  ∃ (k : Nat) (b : ByteArray), i = .int .i64 (k : Nat) ∧ k ≤ 32 ∧ t = .string b ∧ b.data.toList = textL (h.take k) ∧ Kp (fun _ => False) w wr ∧ wr.heap[w.heap.size]? = some (.cells (byteCells h).toArray 24 (0, 0))

set_option maxRecDepth 100000 in
set_option maxHeartbeats 2000000 in
theorem rtext_any (w : World) (h : List UInt8) (hl : h.length = 32) : Calls Try.prog 16 #[.agg (byteCells h).toArray] w fun e w' => e = .returned (.string ⟨(textL h).toArray⟩) ∧ Below w.heap.size w w' := by
  go_enter Try.func16, Try.ntmps16
  go_wp2_with fail
  go_loopw [4, 3] (fun i t wr => RTRel w h i t wr) (fun i _ _ => 32 - (Go.RowKit.intOf i).toNat)
  case atStart => exact ⟨0, _, rfl, by omega, rfl, rfl, Kp.alloc _ _ _, heap_alloc_new w _⟩
  case round =>
    obtain ⟨k, b, rfl, hk, rfl, hb, hkp, hrow⟩ := hrel
    have HB := Lib.hid hb
    have HK := Lib.hid hkp
    have HR := Lib.hid hrow
    clear hb hkp hrow
    by_cases h1 : k < 32
    · obtain ⟨y, hy⟩ : ∃ y, h.getD k 0 = y := ⟨_, rfl⟩
      have cy : wr.cell? ⟨w.heap.size, k, none⟩ = some (.int .u8 (y.toNat : Int)) := by rw [cell_of_row _ _ _ _ _ _ HR.out, ← hy]; exact rowB_some h k (by omega)
      have hy256 : (y.toNat : Int) < 256 := by have := UInt8.toNat_lt y; omega
      have k32 : (k : Int) < 32 := by omega
      have k0 : (0 : Int) ≤ k := by omega
      have hbl : b.size ≤ 64 := by
        have : ∀ l : List UInt8, (textL l).length = 2 * l.length := by
          intro l
          induction l with
          | nil => rfl
          | cons a l ih => simp [textL, hex2] at ih ⊢; omega
        rw [size_list, HB.out, this, List.length_take]; omega
      have hbi : (b.size : Int) ≤ 64 := by omega
      have hT : textL (h.take (k + 1)) = textL (h.take k) ++ [hexC (y.toNat / 16)] ++ [hexC (y.toNat % 16)] := by
        have eg : h.getD k 0 = h[k]'(by omega) := by simp [List.getD, show k < h.length by omega]
        rw [List.take_succ_eq_append_getElem (by omega : k < h.length), textL, List.flatMap_append, ← hy, eg]
        simp [textL, hex2]
      have hs1 := run_cut (y.toNat / 16) ((y.toNat : Int) / 16) ((y.toNat : Int) / 16 + 1) (by simp) (by simp) (by omega)
      have hs2 := run_cut (y.toNat % 16) ((y.toNat : Int) % 16) ((y.toNat : Int) % 16 + 1) (by simp) (by simp) (by omega)
      have hw1 : IntKind.u8.wrap ((y.toNat : Int) / 16 + 1) = (y.toNat : Int) / 16 + 1 := by rw [IntKind.wrap_u8']; omega
      have hw2 : IntKind.u8.wrap ((y.toNat : Int) % 16 + 1) = (y.toNat : Int) % 16 + 1 := by rw [IntKind.wrap_u8']; omega
      obtain ⟨p1, hp1⟩ : ∃ p, hexC (y.toNat / 16) = p := ⟨_, rfl⟩
      obtain ⟨p2, hp2⟩ : ∃ p, hexC (y.toNat % 16) = p := ⟨_, rfl⟩
      rw [hp1] at hs1
      rw [hp2] at hs2
      have HT := Lib.hid hT
      have HP1 := Lib.hid hp1
      have HP2 := Lib.hid hp2
      clear hT hp1 hp2 hy
      go_wp2_with fail
      go_quiet (fail)
      go_wp2_with fail
      go_roundw
      case rel =>
        refine ⟨k + 1, _, by simp, by omega, rfl, ?_, HK.out.trans (Kp.drewN (fun _ => False) wr _) fun _ h => h.elim, HR.out⟩
        rw [HT.out, HP1.out, HP2.out]
        simp [HB.out]
      case measure => simp [Go.RowKit.intOf]; omega
    · obtain rfl : k = 32 := by omega
      have hb := HB.out
      rw [List.take_of_length_le (by omega)] at hb
      have e2 : b = ⟨(textL h).toArray⟩ := by
        apply ba_ext
        rw [hb]
      go_wp2_with fail
      go_ret
      refine ⟨?_, HK.out.belowS⟩
      rw [← e2]
      rfl

end Go.Proofs.Ytgkdjcednebgoaa
