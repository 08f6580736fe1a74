/- The plain functions of SHA-256 over natural numbers, with the operations as Go's uint32 has them. No program in sight. -/
import Derived.WalkKit
namespace Go.Proofs.Ytgkdjcednebgoaa
open Go.RowKit

def add32 (a b : Nat) : Nat := (a + b) % 4294967296
def xor32 (a b : Nat) : Nat := (a % 4294967296) ^^^ (b % 4294967296)
def and32 (a b : Nat) : Nat := (a % 4294967296) &&& (b % 4294967296)
def or32 (a b : Nat) : Nat := (a % 4294967296) ||| (b % 4294967296)
def not32 (a : Nat) : Nat := xor32 4294967295 a
def shl32 (a n : Nat) : Nat := (a * 2 ^ n) % 4294967296
def shr32 (a n : Nat) : Nat := a / 2 ^ n
def rot32 (x n : Nat) : Nat := or32 (shr32 x n) (shl32 x (32 - n))
def mix32 (x a b c : Nat) : Nat := xor32 (xor32 (rot32 x a) (rot32 x b)) (rot32 x c)

theorem wrap_add32 (a b : Nat) : IntKind.u32.wrap ((a : Int) + (b : Int)) = ((add32 a b : Nat) : Int) := by
  rw [IntKind.wrap_u32', add32]; omega

theorem ofInt32 (a : Nat) : (BitVec.ofInt 32 (a : Int)).toNat = a % 4294967296 := by
  rw [BitVec.ofInt_natCast, BitVec.toNat_ofNat]

theorem lt32 (a : Nat) : a % 4294967296 < 2 ^ 32 := by omega

theorem bits_xor32 (a b : Nat) : Go.bits .xor .u32 (a : Int) (b : Int) = ((xor32 a b : Nat) : Int) := by
  show IntKind.u32.wrap ((BitVec.ofInt 32 (a : Int) ^^^ BitVec.ofInt 32 (b : Int)).toNat : Int) = _
  have h := Nat.xor_lt_two_pow (lt32 a) (lt32 b)
  rw [BitVec.toNat_xor, ofInt32, ofInt32, IntKind.wrap_u32', xor32]
  omega
theorem bits_and32 (a b : Nat) : Go.bits .and .u32 (a : Int) (b : Int) = ((and32 a b : Nat) : Int) := by
  show IntKind.u32.wrap ((BitVec.ofInt 32 (a : Int) &&& BitVec.ofInt 32 (b : Int)).toNat : Int) = _
  have h := Nat.and_lt_two_pow (a % 4294967296) (lt32 b)
  rw [BitVec.toNat_and, ofInt32, ofInt32, IntKind.wrap_u32', and32]
  omega
theorem bits_or32 (a b : Nat) : Go.bits .or .u32 (a : Int) (b : Int) = ((or32 a b : Nat) : Int) := by
  show IntKind.u32.wrap ((BitVec.ofInt 32 (a : Int) ||| BitVec.ofInt 32 (b : Int)).toNat : Int) = _
  have h := Nat.or_lt_two_pow (lt32 a) (lt32 b)
  rw [BitVec.toNat_or, ofInt32, ofInt32, IntKind.wrap_u32', or32]
  omega
theorem or32_comm (a b : Nat) : or32 a b = or32 b a := by rw [or32, or32, Nat.or_comm]

def kL : List Nat := [
  1116352408, 1899447441, 3049323471, 3921009573, 961987163, 1508970993, 2453635748, 2870763221,
  3624381080, 310598401, 607225278, 1426881987, 1925078388, 2162078206, 2614888103, 3248222580,
  3835390401, 4022224774, 264347078, 604807628, 770255983, 1249150122, 1555081692, 1996064986,
  2554220882, 2821834349, 2952996808, 3210313671, 3336571891, 3584528711, 113926993, 338241895,
  666307205, 773529912, 1294757372, 1396182291, 1695183700, 1986661051, 2177026350, 2456956037,
  2730485921, 2820302411, 3259730800, 3345764771, 3516065817, 3600352804, 4094571909, 275423344,
  430227734, 506948616, 659060556, 883997877, 958139571, 1322822218, 1537002063, 1747873779,
  1955562222, 2024104815, 2227730452, 2361852424, 2428436474, 2756734187, 3204031479, 3329325298]
def startL : List Nat := [1779033703, 3144134277, 1013904242, 2773480762, 1359893119, 2600822924, 528734635, 1541459225]
def u32Cells (l : List Nat) : List Value := l.map fun (n : Nat) => Value.int .u32 (n : Int)
theorem u32Cells_length (l : List Nat) : (u32Cells l).length = l.length := by simp [u32Cells]
theorem u32Cells_append (a b : List Nat) : u32Cells (a ++ b) = u32Cells a ++ u32Cells b := by simp [u32Cells]
theorem u32Cells_one (l : List Nat) : ∀ v ∈ u32Cells l, v.oneCell' = true := by
  intro v hv
  obtain ⟨n, _, rfl⟩ := List.mem_map.1 hv
  rfl
theorem u32Cells_get (l : List Nat) (j : Nat) (h : j < l.length) : (u32Cells l).toArray[j]? = some (.int .u32 ((l.getD j 0 : Nat) : Int)) := by
  simp [u32Cells, h, List.getD]

end Go.Proofs.Ytgkdjcednebgoaa
