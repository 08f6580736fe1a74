/- Walks: the law's helpers Where and Long. -/
import Derived.Test.YteekoocbdapciaaL1
namespace Go.Proofs.Yteekoocbdapciaa
open Go.RowKit Go.Lib

/-- An act: Kind, Off, N, Text. -/
def actV (k o n : Int) (t : ByteArray) : Value := .agg #[.int .i64 k, .int .i64 o, .int .i64 n, .string t]

def whereI (o : Int) : Int := if o < 0 ∨ 16777216 < o then o else o % 300

set_option maxHeartbeats 400000 in
theorem where_out (k o n : Int) (t : ByteArray) (w : World) (h : o < 0 ∨ 16777216 < o) :
    Calls Try.prog 34 #[.agg #[.int .i64 k, .int .i64 o, .int .i64 n, .string t]] w fun e w' => e = .returned (.int .i64 o) ∧ w.alloc (.cells #[.int .i64 k, .int .i64 o, .int .i64 n, .string t] 33) = w' := by
  rcases h with h | h
  · go_enter Try.func34, Try.ntmps34
    go_wp2
    go_ret
    exact ⟨rfl, rfl⟩
  · have h2 : 0 ≤ o := by omega
    go_enter Try.func34, Try.ntmps34
    go_wp2
    go_ret
    exact ⟨rfl, rfl⟩

set_option maxHeartbeats 400000 in
theorem where_in (k o n : Int) (t : ByteArray) (w : World) (h : 0 ≤ o) (h2 : o ≤ 16777216) :
    Calls Try.prog 34 #[.agg #[.int .i64 k, .int .i64 o, .int .i64 n, .string t]] w fun e w' => e = .returned (.int .i64 (o % 300)) ∧ w.alloc (.cells #[.int .i64 k, .int .i64 o, .int .i64 n, .string t] 33) = w' := by
  go_enter Try.func34, Try.ntmps34
  go_wp2_with (go_at_call 22; refine (mod_any _ _ _ (by omega) (by omega)).mono ?_; rintro e w' ⟨rfl, rfl⟩)
  go_ret
  exact ⟨rfl, rfl⟩

theorem where_any (k o n : Int) (t : ByteArray) (w : World) :
    Calls Try.prog 34 #[.agg #[.int .i64 k, .int .i64 o, .int .i64 n, .string t]] w fun e w' => e = .returned (.int .i64 (whereI o)) ∧ Kp (fun _ => False) w w' := by
  by_cases h : o < 0 ∨ 16777216 < o
  · rw [whereI, if_pos h]
    exact (where_out k o n t w h).mono fun e w' ⟨he, hw⟩ => ⟨he, by rw [← hw]; exact Kp.alloc _ _ _⟩
  · rw [whereI, if_neg h]
    exact (where_in k o n t w (by omega) (by omega)).mono fun e w' ⟨he, hw⟩ => ⟨he, by rw [← hw]; exact Kp.alloc _ _ _⟩

/-! ### Long -/
def longF (t : ByteArray) (m : Nat) : Nat → ByteArray → ByteArray
  | 0, s => s
  | k + 1, s => if 0 < s.size ∧ s.size < m then longF t m k (s ++ t) else s

theorem longF_stop (t : ByteArray) (m k : Nat) (s : ByteArray) (h : ¬ (0 < s.size ∧ s.size < m)) : longF t m k s = s := by
  cases k with
  | zero => rfl
  | succ k => rw [longF, if_neg h]

def longB (t : ByteArray) (n : Int) : ByteArray := (longF t (n % 200).toNat 200 t).extract 0 (min (longF t (n % 200).toNat 200 t).size 200)
theorem longB_size (t : ByteArray) (n : Int) : (longB t n).size ≤ 200 := by simp [longB, ByteArray.size_extract]; omega

theorem cut_ge (s : ByteArray) : s.extract 0 200 = s.extract 0 (min s.size 200) := by
  apply ba_ext
  rw [ba_extract, ba_extract]
  have := size_eq s
  rcases Nat.le_total s.size 200 with h | h
  · rw [Nat.min_eq_left h, List.take_of_length_le (by simp; omega), List.take_of_length_le (by simp)]
  · rw [Nat.min_eq_right h]
theorem cut_le (s : ByteArray) (h : s.size ≤ 200) : s = s.extract 0 (min s.size 200) := by
  apply ba_ext
  rw [ba_extract]
  have := size_eq s
  rw [List.take_of_length_le (by simp; omega)]
  simp

def LongRel (w : World) (t : ByteArray) (m : Nat) (goal : ByteArray) (v : Value) (wr : World) : Prop :=
  ∃ k s, v = .string s ∧ longF t m k s = goal ∧ m ≤ k + s.size ∧ t.size ≤ s.size ∧ s.size ≤ max t.size 400 ∧ (s.size = 0 ∨ 0 < t.size) ∧ wr = w

set_option maxHeartbeats 800000 in
theorem long_any (k o n : Int) (t : ByteArray) (w : World) (ht : t.size ≤ 9223372036854775807) :
    Calls Try.prog 36 #[.agg #[.int .i64 k, .int .i64 o, .int .i64 n, .string t]] w fun e w' => e = .returned (.string (longB t n)) ∧ Kp (fun _ => False) w w' := by
  obtain ⟨m, hm⟩ : ∃ m : Nat, n % 200 = (m : Int) := ⟨(n % 200).toNat, by omega⟩
  have hm2 : m < 200 := by omega
  have hlb : longB t n = (longF t m 200 t).extract 0 (min (longF t m 200 t).size 200) := by rw [longB, hm]; rfl
  have HLB := Lib.hid hlb
  have HM := Lib.hid hm
  clear hlb hm
  go_enter Try.func36, Try.ntmps36
  go_wp2_with fail
  go_loopw [3] (fun v wr => LongRel (w.alloc (.cells #[.int .i64 k, .int .i64 o, .int .i64 n, .string t] 33)) t m (longF t m 200 t) v wr) (fun v _ => 200 - strLen v)
  case atStart => exact ⟨200, t, rfl, rfl, by omega, Nat.le_refl _, by omega, by omega, rfl⟩
  case round =>
    obtain ⟨j, s, rfl, hgoal, hmk, hts, hst, ht0, rfl⟩ := hrel
    have Ht0 := Lib.hid ht0
    clear ht0
    by_cases h0 : 0 < s.size
    · by_cases h1 : s.size < m
      · obtain ⟨j, rfl⟩ : ∃ i, j = i + 1 := ⟨j - 1, by omega⟩
        rw [longF, if_pos ⟨h0, h1⟩] at hgoal
        have HG := Lib.hid hgoal
        clear hgoal
        go_wp2_with (go_at_call 22; refine (mod_any _ _ _ (by omega) (by omega)).mono ?_; rintro e w' ⟨rfl, rfl⟩; rw [HM.out])
        have htp : 0 < t.size := by have := Ht0.out; omega
        go_roundw
        case rel => exact ⟨j, s ++ t, rfl, HG.out, by rw [ByteArray.size_append]; omega, by rw [ByteArray.size_append]; omega, by rw [ByteArray.size_append]; omega, .inr htp, rfl⟩
        case measure => simp [strLen, ByteArray.size_append]; omega
      · rw [longF_stop _ _ _ _ (by omega)] at hgoal
        have HG := Lib.hid hgoal
        clear hgoal
        go_wp2_with (go_at_call 22; refine (mod_any _ _ _ (by omega) (by omega)).mono ?_; rintro e w' ⟨rfl, rfl⟩; rw [HM.out])
        · go_ret
          exact ⟨by rw [HLB.out, ← HG.out, ← cut_ge]; rfl, Kp.alloc _ _ _⟩
        · have h9 : (s.size : Int) ≤ 200 := by assumption
          go_ret
          exact ⟨by rw [HLB.out, ← HG.out, ← cut_le s (by omega)]; rfl, Kp.alloc _ _ _⟩
    · rw [longF_stop _ _ _ _ (by omega)] at hgoal
      have HG := Lib.hid hgoal
      clear hgoal
      go_wp2_with fail
      go_ret
      exact ⟨by rw [HLB.out, ← HG.out, ← cut_le s (by omega)]; rfl, Kp.alloc _ _ _⟩

end Go.Proofs.Yteekoocbdapciaa
