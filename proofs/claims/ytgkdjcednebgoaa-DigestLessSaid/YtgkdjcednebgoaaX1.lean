/- Walks: rotations, words, the four bytes of a word. -/
import Derived.Test.YtgkdjcednebgoaaKit
namespace Go.Proofs.Ytgkdjcednebgoaa
open Go.RowKit Go.Lib

theorem cast_shr (x n : Nat) : (x : Int) / 2 ^ n = ((shr32 x n : Nat) : Int) := by simp [shr32]
theorem cast_shl (x n : Nat) : (x : Int) * 2 ^ n % 4294967296 = ((shl32 x n : Nat) : Int) := by simp [shl32]

theorem rot_any (x n : Nat) (h1 : 1 ≤ n) (h2 : n ≤ 31) (w : World) : Calls Try.prog 33 #[.int .u32 (x : Int), .int .i64 (n : Int)] w fun e w' => e = .returned (.int .u32 (rot32 x n : Nat)) ∧ ∃ j, w' = w.drewN j := by
  have l1 : 0 ≤ (n : Int) := by omega
  have l2 : (n : Int) ≤ 31 := by omega
  go_enter Try.func33, Try.ntmps33
  go_wp2_with fail
  go_quiet (fail)
  go_wp2_with fail
  go_ret
  exact ⟨by rw [rot32, ← bits_or32, ← cast_shr, ← cast_shl]; rfl, _, rfl⟩

theorem and31_all : ∀ c : Fin 32, 1 ≤ c.val → Go.bits .and .u64 (IntKind.u64.wrap (-(c.val : Int))) 31 = 32 - (c.val : Int) := by decide +kernel
theorem and31 (n : Nat) (h1 : 1 ≤ n) (h2 : n ≤ 31) : Go.bits .and .u64 (IntKind.u64.wrap (-(n : Int))) 31 = 32 - (n : Int) := and31_all ⟨n, by omega⟩ h1

theorem rotl_any (x n : Nat) (h1 : 1 ≤ n) (h2 : n ≤ 31) (w : World) : Calls Try.prog 37 #[.int .u32 (x : Int), .int .i64 (-(n : Int))] w fun e w' => e = .returned (.int .u32 (rot32 x n : Nat)) ∧ w = w' := by
  have l1 : 0 ≤ (n : Int) := by omega
  have l2 : (n : Int) ≤ 31 := by omega
  have hz := and31 n h1 h2
  obtain ⟨y, hy⟩ : ∃ y, IntKind.u64.wrap (-(n : Int)) = y := ⟨_, rfl⟩
  rw [hy] at hz
  go_enter Try.func37, Try.ntmps37
  go_wp2_with fail
  go_ret
  have e : 32 - (32 - n) = n := by omega
  exact ⟨by rw [rot32, or32_comm, ← bits_or32, ← cast_shr, ← cast_shl, e]; rfl, rfl⟩

/-- At a literal. -/
theorem rotl_at (x : Nat) (m : Int) (n : Nat) (h1 : 1 ≤ n) (h2 : n ≤ 31) (hm : m = -(n : Int)) (w : World) : Calls Try.prog 37 #[.int .u32 (x : Int), .int .i64 m] w fun e w' => e = .returned (.int .u32 (rot32 x n : Nat)) ∧ w = w' := by
  subst hm
  exact rotl_any x n h1 h2 w

theorem mixed_any (x a b c : Nat) (ha1 : 1 ≤ a) (ha2 : a ≤ 31) (hb1 : 1 ≤ b) (hb2 : b ≤ 31) (hc1 : 1 ≤ c) (hc2 : c ≤ 31) (w : World) :
    Calls Try.prog 31 #[.int .u32 (x : Int), .int .i64 (a : Int), .int .i64 (b : Int), .int .i64 (c : Int)] w fun e w' => e = .returned (.int .u32 (mix32 x a b c : Nat)) ∧ w = w' := by
  have l1 : 0 ≤ (a : Int) := by omega
  have l2 : (a : Int) ≤ 31 := by omega
  have l3 : 0 ≤ (b : Int) := by omega
  have l4 : (b : Int) ≤ 31 := by omega
  have l5 : 0 ≤ (c : Int) := by omega
  have l6 : (c : Int) ≤ 31 := by omega
  go_enter Try.func31, Try.ntmps31
  go_wp2_with fail
  refine (rotl_any x a ha1 ha2 w).mono ?_
  rintro e w' ⟨rfl, rfl⟩
  go_wp2_with fail
  refine (rotl_any x b hb1 hb2 w).mono ?_
  rintro e w' ⟨rfl, rfl⟩
  go_wp2_with fail
  refine (rotl_any x c hc1 hc2 w).mono ?_
  rintro e w' ⟨rfl, rfl⟩
  go_wp2_with fail
  go_ret
  exact ⟨by rw [mix32, ← bits_xor32, ← bits_xor32]; rfl, rfl⟩

def word32 (b0 b1 b2 b3 : Nat) : Nat := or32 (or32 (or32 (b0 * 16777216) (b1 * 65536)) (b2 * 256)) b3

theorem word_any (w : World) (g off n cap : Nat) (b0 b1 b2 b3 : Nat) (hn : 4 ≤ n) (h0 : w.cell? ⟨g, off, none⟩ = some (.int .u8 b0)) (h1 : w.cell? ⟨g, off + 1, none⟩ = some (.int .u8 b1)) (h2 : w.cell? ⟨g, off + 2, none⟩ = some (.int .u8 b2)) (h3 : w.cell? ⟨g, off + 3, none⟩ = some (.int .u8 b3)) (k3 : b3 < 256) (k0 : b0 < 256) (k1 : b1 < 256) (k2 : b2 < 256) :
    Calls Try.prog 36 #[.slice (some ⟨g, off, none⟩) n cap] w fun e w' => e = .returned (.int .u32 (word32 b0 b1 b2 b3 : Nat)) ∧ ∃ j, w' = w.drewN j := by
  have l0 : (4 : Int) ≤ n := by omega
  have i0 : (b0 : Int) < 256 := by omega
  have i1 : (b1 : Int) < 256 := by omega
  have i2 : (b2 : Int) < 256 := by omega
  have i3 : (b3 : Int) < 256 := by omega
  go_enter Try.func36, Try.ntmps36
  go_wp2_with fail
  go_quiet (fail)
  go_wp2_with fail
  go_ret
  exact ⟨by rw [word32, ← bits_or32, ← bits_or32, ← bits_or32]; rfl, _, rfl⟩

def be4 (x : Nat) : List UInt8 := [UInt8.ofNat (x / 16777216), UInt8.ofNat (x / 65536), UInt8.ofNat (x / 256), UInt8.ofNat x]

theorem bytes_any (x : Nat) (w : World) : Calls Try.prog 19 #[.int .u32 (x : Int)] w fun e w' => e = .returned (.slice (some ⟨w.heap.size, 0, none⟩) 4 4) ∧ w' = w.alloc (.cells (byteCells (be4 x)).toArray 5) := by
  go_enter Try.func19, Try.ntmps19
  go_wp2_with fail
  go_ret
  exact ⟨rfl, by simp [be4, byteCells]⟩

end Go.Proofs.Ytgkdjcednebgoaa
