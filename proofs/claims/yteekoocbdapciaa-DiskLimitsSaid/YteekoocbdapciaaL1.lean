/- Walks: the law's helpers: Mod, survive, repeated, Where, Long. -/
import Derived.Test.YteekoocbdapciaaR4
namespace Go.Proofs.Yteekoocbdapciaa
open Go.RowKit Go.Lib

theorem tmod_bd (x m : Int) (hm : 1 ≤ m) : -m < x.tmod m ∧ x.tmod m < m := by
  have h1 := Int.tmod_lt_of_pos x (show 0 < m by omega)
  have h2 := Int.lt_tmod_of_pos x (show 0 < m by omega)
  omega

theorem mod_eq (x m : Int) (_hm : 1 ≤ m) : (x.tmod m + m) % m = x % m := by
  rw [Int.add_emod_right]
  by_cases h : 0 ≤ x
  · rw [Int.tmod_eq_emod_of_nonneg h, Int.emod_emod]
  · have e : x.tmod m = -((-x) % m) := by
      rw [← Int.tmod_eq_emod_of_nonneg (by omega), Int.neg_tmod]
      omega
    rw [e]
    have h1 : -((-x) % m) = x + m * ((-x) / m) := by
      have := Int.emod_add_mul_ediv (-x) m
      omega
    rw [h1, Int.add_mul_emod_self_left]

set_option maxHeartbeats 400000 in
theorem mod_any (x m : Int) (w : World) (hm : 1 ≤ m) (hm2 : m ≤ 1000000) :
    Calls Try.prog 22 #[.int .i64 x, .int .i64 m] w fun e w' => e = .returned (.int .i64 (x % m)) ∧ w = w' := by
  have hb := tmod_bd x m hm
  obtain ⟨hb1, hb2⟩ := hb
  have he := Lib.hid (mod_eq x m hm)
  go_enter Try.func22, Try.ntmps22
  go_wp2
  go_ret
  exact ⟨by rw [← he.out]; rfl, rfl⟩

/-- The numbers for a crash that a number determines. -/
def survL (n : Int) : List Int := [n, wrap64 (n.tdiv 2), wrap64 (n.tdiv 3), wrap64 (n.tdiv 5), wrap64 (n.tdiv 7)].take (n % 6).toNat

def SurvPost (n : Int) (w : World) (e : Ending) (w' : World) : Prop := ∃ v, e = .returned v ∧ Ints w' v (survL n) ∧ Kp (fun _ => False) w w'

set_option maxHeartbeats 400000 in
theorem survive_any (n : Int) (w : World) : Calls Try.prog 25 #[.int .i64 n] w (SurvPost n w) := by
  obtain ⟨k, hk⟩ : ∃ k : Nat, n % 6 = (k : Int) := ⟨(n % 6).toNat, by omega⟩
  have hk6 : k < 6 := by omega
  have HK := Lib.hid hk
  clear hk
  go_enter Try.func25, Try.ntmps25
  go_wp2_with (go_at_call 22; refine (mod_any _ _ _ (by omega) (by omega)).mono ?_; rintro e w' ⟨rfl, rfl⟩; rw [HK.out])
  go_ret
  have hl : survL n = [n, wrap64 (n.tdiv 2), wrap64 (n.tdiv 3), wrap64 (n.tdiv 5), wrap64 (n.tdiv 7)].take k := by rw [survL, HK.out]; rfl
  refine ⟨_, rfl, ⟨some ⟨w.heap.size, 0, none⟩, 5, ?_, fun _ => ⟨w.heap.size, 0, rfl, fun j hj => ?_⟩⟩, Kp.alloc _ _ _⟩
  · have e : (survL n).length = k := by rw [hl]; simp; omega
    rw [e]
    rfl
  · rw [hl] at hj ⊢
    have hjk : j < k ∧ j < 5 := by simp at hj; omega
    rw [Nat.zero_add, cell_of_row _ _ _ _ _ _ (heap_alloc_new w _)]
    obtain ⟨h1, h2⟩ := hjk
    match j, h2 with
    | 0, _ => simp [List.getD, h1]
    | 1, _ => simp [List.getD, h1]
    | 2, _ => simp [List.getD, h1]
    | 3, _ => simp [List.getD, h1]
    | 4, _ => simp [List.getD, h1]

theorem survL_length (n : Int) : (survL n).length ≤ 5 := by simp [survL]; omega

/-! ### repeated -/
def repB (c : UInt8) (n : Nat) : ByteArray := ⟨(List.replicate n c).toArray⟩
theorem repB_size (c : UInt8) (n : Nat) : (repB c n).size = n := by simp [repB, ByteArray.size]

def RepRel (w : World) (c : UInt8) (n : Nat) (i : Value) (wr : World) : Prop :=
  ∃ k, i = .int .i64 (k : Nat) ∧ k ≤ n ∧ wr.heap[w.heap.size]? = some (.cells (byteCells (List.replicate k c ++ List.replicate (n - k) 0)).toArray 5 (0, 0)) ∧ Kp (fun _ => False) w wr

theorem repRel_step {w wr : World} {c : UInt8} {n k : Nat} (hrow : wr.heap[w.heap.size]? = some (.cells (byteCells (List.replicate k c ++ List.replicate (n - k) 0)).toArray 5 (0, 0))) (hkp : Kp (fun _ => False) w wr) (hlt : k < n) :
    RepRel w c n (.int .i64 ((k : Int) + 1)) (wr.setCell ⟨w.heap.size, k, none⟩ (.int .u8 (c.toNat : Int))) := by
  refine ⟨k + 1, by simp, hlt, ?_, hkp.trans (Kp.setCell (F := fun j => j = w.heap.size) wr (a := ⟨w.heap.size, k, none⟩) _ rfl) fun j hj => .inr (by omega)⟩
  rw [heap_setCell_same wr w.heap.size k _ 5 _ hrow]
  congr 2
  apply Array.ext'
  rw [Array.toList_setIfInBounds, List.toList_toArray, List.toList_toArray]
  obtain ⟨m, hm⟩ : ∃ m, n - k = m + 1 := ⟨n - k - 1, by omega⟩
  have hm2 : n - (k + 1) = m := by omega
  have e : (byteCells (List.replicate k c ++ List.replicate (n - k) 0)).set k (.int .u8 (c.toNat : Int)) = byteCells ((List.replicate k c ++ List.replicate (n - k) 0).set k c) := by
    simp only [byteCells, List.map_set]
  rw [e, hm, hm2, List.replicate_succ (n := m), List.set_append_right _ _ (by simp), List.replicate_succ']
  simp

set_option maxHeartbeats 400000 in
theorem repeated_any (c : UInt8) (n : Nat) (hn : n ≤ 1000000) (w : World) :
    Calls Try.prog 26 #[.int .u8 (c.toNat : Int), .int .i64 n] w fun e w' => e = .returned (.string (repB c n)) ∧ Kp (fun _ => False) w w' := by
  obtain ⟨i0, hi, hz0, hz1, hz2⟩ := info_parts Try.info5
  have hmk : ∀ u : World, (Instr.makeSlice 56 (.int .i64 (n : Int)) (.int .i64 (n : Int))).run Try.prog u =
      .ok (.slice (some ⟨u.heap.size, 0, none⟩) n n) (u.alloc (.cells (madeCells #[.int .u8 0] n) 5)) := fun u => by
    have h := run_make (P := Try.prog) u 56 5 i0 (.int .u8 0) Try.underlying56 hi hz0 .i64 .i64 (n : Int) (n : Int) (by omega) (Int.le_refl _) (by rw [hz2]; omega) (by omega)
    simpa [hz1, Value.cells] using h
  go_enter Try.func26, Try.ntmps26
  go_wp2
  go_loopw [6] (fun i wr => RepRel w c n i wr) (fun i _ => n - (intOf i).toNat)
  case atStart =>
    refine ⟨0, rfl, Nat.zero_le _, ?_, Kp.alloc _ _ _⟩
    rw [heap_alloc_new]
    simp only [List.replicate_zero, List.nil_append, Nat.sub_zero, byteCells_zeros, ← madeCells_zeros]
  case round =>
    obtain ⟨k, rfl, hk, hrow, hkp⟩ := hrel
    by_cases hlt : k < n
    · have hl : (byteCells (List.replicate k c ++ List.replicate (n - k) 0)).length = n := by rw [byteCells_length]; simp; omega
      have hcell : ∃ v, wr.cell? ⟨w.heap.size, k, none⟩ = some v := by
        rw [cell_of_row _ _ _ _ _ _ hrow]
        exact ⟨(byteCells (List.replicate k c ++ List.replicate (n - k) 0)).toArray[k]'(by simp [hl, hlt]), by simp⟩
      obtain ⟨v0, hc0⟩ := hcell
      have hf0 := frozen_of_row wr w.heap.size k _ _ hrow
      have HR := Lib.hid hrow
      have HK := Lib.hid hkp
      clear hrow hkp hl
      go_wp2
      go_roundw
      case rel => exact repRel_step HR.out HK.out hlt
      case measure => simp [intOf]; omega
    · obtain rfl : k = n := by omega
      have hcv : (convert 56 9 (.slice (some ⟨w.heap.size, 0, none⟩) k k)).run Try.prog wr = .ok (.string (repB c k)) wr := by
        have e1 : repB c k = strOfNums (List.replicate k (c.toNat : Int)) := by
          apply ba_ext
          rw [strOfNums_data]
          simp [repB]
        rw [e1]
        refine run_convert_bytes_arg _ 56 5 Try.underlying56 Try.underlying5 w.heap.size 0 k k _ (by simp) ?_ 9 Try.underlying9
        intro i hi
        rw [Nat.zero_add, cell_of_row _ _ _ _ _ _ hrow]
        simp [byteCells, hi, List.getD]
      have HK := Lib.hid hkp
      clear hrow hkp hlt
      go_wp2
      go_ret
      exact ⟨rfl, HK.out⟩

end Go.Proofs.Yteekoocbdapciaa
