/- Walk: the reference's padding. -/
import Derived.Test.YtgkdjcednebgoaaX4
namespace Go.Proofs.Ytgkdjcednebgoaa
open Go.RowKit Go.Lib

/-- How many zero bytes are laid behind n bytes and the one. -/
def zerosN (n : Nat) : Nat := (120 - (n + 1) % 64) % 64
def be8 (n : Nat) : List UInt8 := be4 (n / 4294967296) ++ be4 n
/-- The padded message. -/
def padL (s : List UInt8) : List UInt8 := s ++ [0x80] ++ List.replicate (zerosN s.length) 0 ++ be8 (s.length * 8)

theorem zerosN_lt (n : Nat) : zerosN n < 64 := by unfold zerosN; omega
theorem padL_length (s : List UInt8) : (padL s).length = s.length + 1 + zerosN s.length + 8 := by
  simp [padL, be8, be4]; omega
theorem padL_mod (s : List UInt8) : (padL s).length % 64 = 0 := by
  rw [padL_length]; unfold zerosN; omega

def P1Rel (s : ByteArray) (t : Value) : Prop := ∃ (k : Nat) (b : ByteArray), t = .string b ∧ b.data.toList = s.data.toList ++ [0x80] ++ List.replicate k 0 ∧ k ≤ zerosN s.size

def P2Rel (s : ByteArray) (w : World) (i t : Value) (wr : World) : Prop := ∃ (k : Nat) (b : ByteArray), i = .int .i64 ((k : Int) - 1) ∧ k ≤ 8 ∧ t = .string b ∧
  b.data.toList = s.data.toList ++ [0x80] ++ List.replicate (zerosN s.size) 0 ++ (be8 (s.size * 8)).take (8 - k) ∧ Kp (fun _ => False) w wr

theorem size_list (b : ByteArray) : b.size = b.data.toList.length := by rw [size_eq]

theorem be8_get (n m : Nat) (h : m < 8) : (be8 n).take (8 - (m + 1)) ++ [UInt8.ofNat (n / 2 ^ (8 * m))] = (be8 n).take (8 - m) := by
  have h8 : m = 0 ∨ m = 1 ∨ m = 2 ∨ m = 3 ∨ m = 4 ∨ m = 5 ∨ m = 6 ∨ m = 7 := by omega
  rcases h8 with rfl | rfl | rfl | rfl | rfl | rfl | rfl | rfl <;> simp [be8, be4, Nat.div_div_eq_div_mul]

/-- string([]byte..) of the one byte just laid. -/
theorem conv1 (u : World) (y : Nat) (_h : y < 256) : (convert 33 9 (.slice (some ⟨u.heap.size, 0, none⟩) 1 1)).run Try.prog (u.alloc (.cells #[.int .u8 (y : Int)] 5)) = .ok (.string ⟨#[UInt8.ofNat y]⟩) (u.alloc (.cells #[.int .u8 (y : Int)] 5)) := by
  have e : (⟨#[UInt8.ofNat y]⟩ : ByteArray) = strOfNums [(y : Int)] := by
    apply ba_ext
    rw [strOfNums_data]
    simp
  rw [e]
  refine run_convert_bytes_arg _ 33 5 Try.underlying33 Try.underlying5 u.heap.size 0 1 1 [(y : Int)] rfl ?_ 9 Try.underlying9
  intro i hi
  obtain rfl : i = 0 := by omega
  rw [cell_of_row _ _ _ _ _ _ (heap_alloc_new u _)]
  rfl

set_option maxHeartbeats 1000000 in
theorem padded_any (s : ByteArray) (w : World) (hs : s.size ≤ 100000) : Calls Try.prog 23 #[.string s] w fun e w' => e = .returned (.string ⟨(padL s.data.toList).toArray⟩) ∧ Kp (fun _ => False) w w' := by
  have hsi : (s.size : Int) ≤ 100000 := by omega
  go_enter Try.func23, Try.ntmps23
  go_wp2_with fail
  go_loop [3] (fun t => P1Rel s t) (fun t => match t with | .string b => s.size + 100 - b.size | _ => 0)
  case atStart => exact ⟨0, _, rfl, by simp, Nat.zero_le _⟩
  case round =>
    obtain ⟨k, b, rfl, hb, hk⟩ := hrel
    have hz := zerosN_lt s.size
    have hbs : b.size = s.size + 1 + k := by rw [size_list, hb, size_list]; simp; omega
    have hb1 : b.size ≤ 100100 := by omega
    have hb2 : (b.size : Int) ≤ 100100 := by omega
    have hb3 : s.size + 1 + k ≤ b.size := by omega
    have hb4 : b.size ≤ s.size + 1 + k := by omega
    have HB := Lib.hid hb
    by_cases h1 : k < zerosN s.size
    · have hne : ((b.size : Int) % 64 != 56) = true := by
        rw [bne_iff_ne]; rw [hbs]; unfold zerosN at h1; omega
      clear hb hbs
      go_wp2_with fail
      go_round
      case rel => exact ⟨k + 1, _, rfl, by simp [HB.out, List.replicate_succ'], h1⟩
      case measure =>
        have e : (b ++ (⟨#[0]⟩ : ByteArray)).size = b.size + 1 := by rw [ByteArray.size_append]; rfl
        show s.size + 100 - (b ++ (⟨#[0]⟩ : ByteArray)).size < s.size + 100 - b.size
        rw [e]
        omega
    · obtain rfl : k = zerosN s.size := by omega
      have hne : ((b.size : Int) % 64 != 56) = false := by
        rw [bne_eq_false_iff_eq]; rw [hbs]; unfold zerosN; omega
      clear hb hbs
      go_wp2_with fail
      go_loopw [5, 3] (fun i t wr => P2Rel s w i t wr) (fun i _ _ => (intOf i + 1).toNat)
      case atStart => exact ⟨8, b, by simp, by omega, rfl, by simp [HB.out], Kp.refl _ _⟩
      case round =>
        obtain ⟨k, b2, rfl, hk, rfl, hb2, hkp⟩ := hrel
        have HB2 := Lib.hid hb2
        have HP := Lib.hid hkp
        have hbs2 : b2.size ≤ 100200 := by rw [size_list, hb2, size_list] at *; simp [be8, be4] at *; omega
        have hbs3 : (b2.size : Int) ≤ 100200 := by omega
        clear hb2 hkp
        by_cases h2 : 0 < k
        · obtain ⟨m, rfl⟩ : ∃ m, k = m + 1 := ⟨k - 1, by omega⟩
          have em : ((m + 1 : Nat) : Int) - 1 = (m : Int) := by omega
          rw [em]
          clear em
          have m8 : (m : Int) < 8 := by omega
          have m0 : (0 : Int) ≤ m := by omega
          obtain ⟨y, hy⟩ : ∃ y : Nat, (s.size : Int) * 8 / 2 ^ (8 * m) % 256 = (y : Int) ∧ y = s.size * 8 / 2 ^ (8 * m) % 256 := ⟨s.size * 8 / 2 ^ (8 * m) % 256, by simp, rfl⟩
          have hcv := conv1 wr y (by omega)
          have HY : Hid (UInt8.ofNat y = UInt8.ofNat (s.size * 8 / 2 ^ (8 * m))) := Lib.hid (by rw [hy.2]; exact UInt8.toNat_inj.1 (by simp))
          have hy1 := hy.1
          clear hy
          go_wp2_with fail
          go_roundw
          case rel =>
            refine ⟨m, _, by simp, by omega, rfl, ?_, HP.out.trans (Kp.alloc (fun _ => False) _ _) fun _ h => h.elim⟩
            have := be8_get (s.size * 8) m (by omega)
            rw [← HY.out] at this
            rw [← this]
            simp [HB2.out]
          case measure => simp [intOf] <;> omega
        · obtain rfl : k = 0 := by omega
          go_wp2_with fail
          go_ret
          refine ⟨?_, HP.out⟩
          have e : b2.data.toList = padL s.data.toList := by
            rw [HB2.out, padL, List.take_of_length_le (by simp [be8, be4]), ← size_list]
          have e2 : b2 = ⟨(padL s.data.toList).toArray⟩ := by
            apply ba_ext
            rw [e]
          rw [← e2]
          rfl
end Go.Proofs.Ytgkdjcednebgoaa
