/- Walks: the reference model's Put. -/
import Derived.Test.YteekoocbdapciaaR1
namespace Go.Proofs.Yteekoocbdapciaa
open Go.RowKit Go.Lib

def putB (c : ByteArray) (off : Nat) (s : ByteArray) : ByteArray := ⟨(putL c.data.toList off s.data.toList).toArray⟩

theorem putB_size (c : ByteArray) (off : Nat) (s : ByteArray) : (putB c off s).size = max c.size (off + s.size) := by
  rw [size_eq, size_eq, size_eq]
  exact putL_length _ _ _

theorem ba_ext {a b : ByteArray} (h : a.data.toList = b.data.toList) : a = b := by
  obtain ⟨⟨a⟩⟩ := a
  obtain ⟨⟨b⟩⟩ := b
  simp only at h
  rw [h]

theorem ba_append (a b : ByteArray) : (a ++ b).data.toList = a.data.toList ++ b.data.toList := by simp [ByteArray.data_append]
theorem ba_extract (a : ByteArray) (i j : Nat) : (a.extract i j).data.toList = (a.data.toList.drop i).take (j - i) := by
  have e : a = ⟨a.data.toList.toArray⟩ := by simp
  rw [e, ByteArray.extract_mk]

/-- What Put comes to where the contents reach the offset. -/
theorem put_fits (c : ByteArray) (off : Nat) (s : ByteArray) (h : off ≤ c.size) :
    putB c off s = if c.size ≤ off + s.size then c.extract 0 off ++ s else c.extract 0 off ++ s ++ c.extract (off + s.size) c.size := by
  apply ba_ext
  have h1 := size_eq c
  have h2 := size_eq s
  split
  · rename_i h3
    rw [ba_append, ba_extract]
    simp only [putB, putL, splice]
    rw [List.drop_of_length_le (by simp; omega), List.take_append_of_le_length (by omega)]
    simp
  · rename_i h3
    rw [ba_append, ba_append, ba_extract, ba_extract]
    simp only [putB, putL, splice]
    rw [show off + s.data.toList.length - c.data.toList.length = 0 by omega]
    simp only [List.replicate_zero, List.append_nil, List.append_assoc, List.drop_zero, Nat.sub_zero]
    rw [h1, h2, List.take_of_length_le (l := List.drop _ _) (by simp)]

/-- Filling up to the offset changes nothing for what Put comes to. -/
theorem put_fill (c : ByteArray) (off : Nat) (s : ByteArray) (z : ByteArray) (h : c.size < off) (hz : z.data.toList = List.replicate (off - c.size) 0) :
    putB c off s = (c ++ z).extract 0 off ++ s := by
  have h1 := size_eq c
  have h2 := size_eq s
  apply ba_ext
  rw [ba_append, ba_extract, ba_append, hz]
  simp only [putB, putL, splice]
  rw [List.drop_of_length_le (by simp; omega)]
  simp only [List.append_nil, List.drop_zero, Nat.sub_zero]
  congr 1
  rw [List.take_append, List.take_append, List.take_replicate, List.take_replicate, h1]
  congr 2
  omega

def RPutPost (w : World) (c : ByteArray) (off : Nat) (s : ByteArray) (e : Ending) (w' : World) : Prop := e = .returned (.string (putB c off s)) ∧ Kp (fun _ => False) w w'

set_option maxHeartbeats 400000 in
theorem rput_end (w : World) (c : ByteArray) (off : Nat) (s : ByteArray) (h : off ≤ c.size) (he : c.size ≤ off + s.size) (_hc : c.size ≤ 16777216) (hs : off + s.size ≤ 16777216) :
    Calls Try.prog 39 #[.string c, .int .i64 off, .string s] w (RPutPost w c off s) := by
  have hr := put_fits c off s h
  rw [if_pos he] at hr
  have HR := Lib.hid hr
  clear hr
  go_enter Try.func39, Try.ntmps39
  go_wp2
  refine wp_loop_rounds 1 ?_
  rw [rounds_succ]
  go_wp2
  go_ret
  exact ⟨by rw [HR.out]; rfl, Kp.refl _ _⟩

set_option maxHeartbeats 400000 in
theorem rput_mid (w : World) (c : ByteArray) (off : Nat) (s : ByteArray) (h : off ≤ c.size) (he : off + s.size < c.size) (hc : c.size ≤ 16777216) :
    Calls Try.prog 39 #[.string c, .int .i64 off, .string s] w (RPutPost w c off s) := by
  have hr := put_fits c off s h
  rw [if_neg (by omega)] at hr
  have HR := Lib.hid hr
  clear hr
  go_enter Try.func39, Try.ntmps39
  go_wp2
  refine wp_loop_rounds 1 ?_
  rw [rounds_succ]
  go_wp2
  go_quiet (fail)
  go_wp2
  go_ret
  exact ⟨by rw [HR.out]; rfl, Kp.drewN _ _ _⟩

set_option maxHeartbeats 400000 in
theorem rput_far (w : World) (c : ByteArray) (off : Nat) (s : ByteArray) (h : c.size < off) (hs : off + s.size ≤ 16777216) :
    Calls Try.prog 39 #[.string c, .int .i64 off, .string s] w (RPutPost w c off s) := by
  obtain ⟨i0, hi, hz0, hz1, hz2⟩ := info_parts Try.info5
  obtain ⟨d, hd⟩ : ∃ d, d = off - c.size := ⟨_, rfl⟩
  obtain ⟨z, hz⟩ : ∃ z : ByteArray, z.data.toList = List.replicate d 0 := ⟨⟨(List.replicate d 0).toArray⟩, by simp⟩
  have hr := put_fill c off s z h (by rw [hz, hd])
  have hdz : z.size = d := by rw [size_eq, hz, List.length_replicate]
  have hcz : (c ++ z).size = off := by rw [ByteArray.size_append]; omega
  have hmk : ∀ u : World, (Instr.makeSlice 56 (.int .i64 ((off : Int) - (c.size : Int))) (.int .i64 ((off : Int) - (c.size : Int)))).run Try.prog u =
      .ok (.slice (some ⟨u.heap.size, 0, none⟩) d d) (u.alloc (.cells (madeCells #[.int .u8 0] d) 5)) := fun u => by
    have e1 : ((off : Int) - (c.size : Int)) = (d : Int) := by omega
    have h := run_make (P := Try.prog) u 56 5 i0 (.int .u8 0) Try.underlying56 hi hz0 .i64 .i64 (d : Int) (d : Int) (by omega) (Int.le_refl _) (by rw [hz2]; omega) (by omega)
    rw [e1]
    simpa [hz1, Value.cells] using h
  have hcv : (convert 56 9 (.slice (some ⟨w.heap.size, 0, none⟩) d d)).run Try.prog (w.alloc (.cells (madeCells #[.int .u8 0] d) 5)) = .ok (.string z) (w.alloc (.cells (madeCells #[.int .u8 0] d) 5)) := by
    have e1 : z = strOfNums (List.replicate d 0) := by
      apply ba_ext
      rw [strOfNums_data, hz]
      simp
    rw [e1]
    refine run_convert_bytes_arg _ 56 5 Try.underlying56 Try.underlying5 w.heap.size 0 d d _ (by simp) ?_ 9 Try.underlying9
    intro i hi
    rw [Nat.zero_add, cell_of_row _ _ _ _ _ _ (heap_alloc_new w _)]
    have : (madeCells #[.int .u8 0] d)[i]? = (madeCells #[.int .u8 0] d).toList[i]? := by simp
    rw [this, madeCells_zeros]
    simp [hi, List.getD]
  have h7 : c.size + z.size ≤ off := by omega
  have h8 : off ≤ c.size + z.size := by omega
  have HR := Lib.hid hr
  have HD := Lib.hid hd
  have HCZ := Lib.hid hcz
  have HDZ := Lib.hid hdz
  clear hr hd hcz hdz hz
  go_enter Try.func39, Try.ntmps39
  go_wp2
  refine wp_loop_rounds 2 ?_
  rw [rounds_succ]
  go_wp2
  rw [rounds_succ]
  go_wp2
  go_ret
  exact ⟨by rw [HR.out]; rfl, Kp.alloc _ _ _⟩

theorem rput_any (w : World) (c : ByteArray) (off : Nat) (s : ByteArray) (hc : c.size ≤ 16777216) (hs : off + s.size ≤ 16777216) :
    Calls Try.prog 39 #[.string c, .int .i64 off, .string s] w (RPutPost w c off s) := by
  by_cases h : c.size < off
  · exact rput_far w c off s h hs
  · by_cases he : c.size ≤ off + s.size
    · exact rput_end w c off s (by omega) he hc hs
    · exact rput_mid w c off s (by omega) (by omega) hc

end Go.Proofs.Yteekoocbdapciaa
