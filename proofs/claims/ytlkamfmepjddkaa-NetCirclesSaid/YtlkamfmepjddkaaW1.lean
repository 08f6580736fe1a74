/- Walks: remainders, comparisons, and the texts of replies. -/
import Derived.Test.YtlkamfmepjddkaaN3
set_option linter.unusedSimpArgs false
set_option linter.unusedVariables false
namespace Go.Proofs.Ytlkamfmepjddkaa
open Go.RowKit Go.Lib Go.Maps

theorem tmod_bd (x m : Int) (hm : 1 ≤ m) : -m < x.tmod m ∧ x.tmod m < m := by
  have h1 := Int.tmod_lt_of_pos x (show 0 < m by omega)
  have h2 := Int.lt_tmod_of_pos x (show 0 < m by omega)
  omega

theorem mod_eq (x m : Int) (_hm : 1 ≤ m) : (x.tmod m + m) % m = x % m := by
  rw [Int.add_emod_right]
  by_cases h : 0 ≤ x
  · rw [Int.tmod_eq_emod_of_nonneg h, Int.emod_emod]
  · have e : x.tmod m = -((-x) % m) := by
      rw [← Int.tmod_eq_emod_of_nonneg (by omega), Int.neg_tmod]
      omega
    rw [e]
    have h1 : -((-x) % m) = x + m * ((-x) / m) := by
      have := Int.emod_add_mul_ediv (-x) m
      omega
    rw [h1, Int.add_mul_emod_self_left]

set_option maxHeartbeats 400000 in
theorem mod_any (x m : Int) (w : World) (hm : 1 ≤ m) (hm2 : m ≤ 1000000) :
    Calls Try.prog 21 #[.int .i64 x, .int .i64 m] w fun e w' => e = .returned (.int .i64 (x % m)) ∧ w = w' := by
  have hb := tmod_bd x m hm
  obtain ⟨hb1, hb2⟩ := hb
  have he := Lib.hid (mod_eq x m hm)
  go_enter Try.func21, Try.ntmps21
  go_wp2
  go_ret
  exact ⟨by rw [← he.out]; rfl, rfl⟩
theorem mod_kp (x m : Int) (w : World) (r : Int) (hr : x % m = r) (hm : 1 ≤ m) (hm2 : m ≤ 1000000) :
    Calls Try.prog 21 #[.int .i64 x, .int .i64 m] w fun e w' => e = .returned (.int .i64 r) ∧ w = w' := by rw [← hr]; exact mod_any x m w hm hm2

def turnI (x : Int) (m : Nat) : Int := if m = 0 then -1 else x % (m : Int)

set_option maxHeartbeats 400000 in
theorem turn_any (x : Int) (m : Nat) (w : World) (hm2 : m ≤ 1000000) :
    Calls Try.prog 52 #[.int .i64 x, .int .i64 (m : Int)] w fun e w' => e = .returned (.int .i64 (turnI x m)) ∧ w = w' := by
  by_cases h0 : m = 0
  · subst h0
    go_enter Try.func52, Try.ntmps52
    go_wp2
    go_ret
    exact ⟨rfl, rfl⟩
  · have hm : (1 : Int) ≤ (m : Int) := by omega
    have hb := tmod_bd x m hm
    obtain ⟨hb1, hb2⟩ := hb
    have he := Lib.hid (mod_eq x m hm)
    have ht := Lib.hid (show turnI x m = x % (m : Int) by simp [turnI, h0])
    have h1 : ((m : Int) == 0) = false := by rw [beq_eq_false_iff_ne]; omega
    have h2 : (m : Int) ≤ 1000000 := by omega
    go_enter Try.func52, Try.ntmps52
    go_wp2
    go_ret
    exact ⟨by rw [ht.out, ← he.out]; rfl, rfl⟩

theorem nan_any (x : Int) (w : World) : Calls Try.prog 47 #[.int .i64 x] w fun e w' => e = .returned (.bool false) ∧ w = w' := by
  go_enter Try.func47, Try.ntmps47
  go_wp2
  go_ret
  exact ⟨by simp, rfl⟩

def cmp3 (x y : Int) : Int := if x < y then -1 else if y < x then 1 else 0

set_option maxHeartbeats 1000000 in
theorem cmp_any (x y : Int) (w : World) : Calls Try.prog 36 #[.int .i64 x, .int .i64 y] w fun e w' => e = .returned (.int .i64 (cmp3 x y)) ∧ w = w' := by
  have h3 : x < y ∨ y < x ∨ x = y := by omega
  rcases h3 with h | h | h
  · have E := Lib.hid (show cmp3 x y = -1 by simp [cmp3, h])
    go_enter Try.func36, Try.ntmps36
    go_wp2_with fail
    refine (nan_any _ _).mono ?_
    rintro e w' ⟨rfl, rfl⟩
    go_wp2_with fail
    refine (nan_any _ _).mono ?_
    rintro e w' ⟨rfl, rfl⟩
    go_wp2_with fail
    go_ret
    exact ⟨by rw [E.out]; rfl, rfl⟩
  · have hn : ¬ x < y := by omega
    have E := Lib.hid (show cmp3 x y = 1 by simp [cmp3, h, hn])
    go_enter Try.func36, Try.ntmps36
    go_wp2_with fail
    refine (nan_any _ _).mono ?_
    rintro e w' ⟨rfl, rfl⟩
    go_wp2_with fail
    refine (nan_any _ _).mono ?_
    rintro e w' ⟨rfl, rfl⟩
    go_wp2_with fail
    go_ret
    exact ⟨by rw [E.out]; rfl, rfl⟩
  · subst h
    have E := Lib.hid (show cmp3 x x = 0 by simp [cmp3])
    have hn : ¬ x < x := by omega
    go_enter Try.func36, Try.ntmps36
    go_wp2_with fail
    refine (nan_any _ _).mono ?_
    rintro e w' ⟨rfl, rfl⟩
    go_wp2_with fail
    refine (nan_any _ _).mono ?_
    rintro e w' ⟨rfl, rfl⟩
    go_wp2_with fail
    go_ret
    exact ⟨by rw [E.out]; rfl, rfl⟩

/-- cmp.Or of two numbers that lie in a row. -/
def orI (x y : Int) : Int := if x = 0 then y else x
set_option maxHeartbeats 1000000 in
theorem or_any (x y : Int) (w : World) (g : Nat) (h0 : w.cell? ⟨g, 0, none⟩ = some (.int .i64 x)) (h1 : w.cell? ⟨g, 1, none⟩ = some (.int .i64 y)) :
    Calls Try.prog 35 #[.slice (some ⟨g, 0, none⟩) 2 2] w fun e w' => e = .returned (.int .i64 (orI x y)) ∧ w = w' := by
  go_enter Try.func35, Try.ntmps35
  go_wp2_with fail
  by_cases hx : x = 0
  · by_cases hy : y = 0
    · subst hx hy
      refine wp_loop_rounds 3 ?_
      rw [rounds_succ]
      go_wp2_with fail
      rw [rounds_succ]
      go_wp2_with fail
      rw [rounds_succ]
      go_wp2_with fail
      go_ret
      exact ⟨rfl, rfl⟩
    · subst hx
      have hn : (y != 0) = true := by simpa using hy
      refine wp_loop_rounds 2 ?_
      rw [rounds_succ]
      go_wp2_with fail
      rw [rounds_succ]
      go_wp2_with fail
      go_ret
      exact ⟨rfl, rfl⟩
  · have hn : (x != 0) = true := by simpa using hx
    have E := Lib.hid (show orI x y = x by simp [orI, hx])
    refine wp_loop_rounds 1 ?_
    rw [rounds_succ]
    go_wp2_with fail
    go_ret
    exact ⟨by rw [E.out]; rfl, rfl⟩

def strV (l : List ByteArray) : List Value := l.map .string
/-- A slice of texts that the call has made. -/
def StrsAt (w : World) (v : Value) (l : List ByteArray) : Prop := ∃ sp cap, v = .slice sp l.length cap ∧ Src w 1 sp l.length (strV l) ∧ ∀ k, spIn sp k → ∃ cs, w.heap[k]? = some (.cells cs 9 (0, 0))
def SPost (w : World) (l : List ByteArray) (e : Ending) (w' : World) : Prop := ∃ v, e = .returned v ∧ StrsAt w' v l ∧ Kp (fun _ => False) w w'

theorem strs1 (w : World) (s : ByteArray) : StrsAt (w.alloc (.cells #[.string s] 9)) (.slice (some ⟨w.heap.size, 0, none⟩) 1 1) [s] := ⟨_, 1, rfl, Src.one w 9 1 [.string s] rfl, fun k ⟨o, e⟩ => by cases e; exact ⟨_, heap_alloc_new w _⟩⟩
theorem strs2 (w : World) (s t : ByteArray) : StrsAt (w.alloc (.cells #[.string s, .string t] 9)) (.slice (some ⟨w.heap.size, 0, none⟩) 2 2) [s, t] :=
  ⟨_, 2, rfl, ⟨rfl, fun _ => ⟨_, 0, rfl, fun j v hv => by
    rw [Nat.zero_add, cell_of_row _ _ _ _ _ _ (heap_alloc_new w _)]
    simpa [strV] using hv⟩⟩, fun k ⟨o, e⟩ => by cases e; exact ⟨_, heap_alloc_new w _⟩⟩

theorem honest_any (p : Value) (s : ByteArray) (n : Int) (w : World) : Calls Try.prog 41 #[p, .string s, .int .i64 n] w (SPost w [s]) := by
  go_enter Try.func41, Try.ntmps41
  go_wp2_with fail
  go_ret
  exact ⟨_, rfl, strs1 w s, Kp.alloc _ _ _⟩
theorem twofold_any (p : Value) (s : ByteArray) (n : Int) (w : World) : Calls Try.prog 44 #[p, .string s, .int .i64 n] w (SPost w [s, s]) := by
  go_enter Try.func44, Try.ntmps44
  go_wp2_with fail
  go_ret
  exact ⟨_, rfl, strs2 w s s, Kp.alloc _ _ _⟩

set_option maxHeartbeats 400000 in
theorem short_any (p : Value) (s : ByteArray) (n : Int) (w : World) (hs : s.size ≤ 1000) : Calls Try.prog 43 #[p, .string s, .int .i64 n] w (SPost w [shortS s n]) := by
  obtain ⟨k, hk⟩ : ∃ k : Nat, min (max n 0) (s.size : Int) = (k : Int) := ⟨(min (max n 0) (s.size : Int)).toNat, by omega⟩
  have hk2 : k ≤ s.size := by omega
  have E : Hid (s.extract 0 k = shortS s n) := Lib.hid (by unfold shortS; rw [show ((min (max n 0) ((s.size : Nat) : Int))).toNat = k by omega])
  have HK := Lib.hid hk
  clear hk
  go_enter Try.func43, Try.ntmps43
  go_wp2_with (first
    | (refine wpList_max rfl (.tmp 8) (.const (.int .i64 0)) #[3, 3] rfl .i64 _ _ (max n 0) rfl rfl rfl ?_)
    | (refine wpList_min rfl (.tmp 9) (.tmp 11) #[3, 3] rfl .i64 _ _ (k : Int) rfl rfl HK.out.symm ?_))
  rw [E.out]
  go_ret
  exact ⟨_, rfl, strs1 w _, Kp.alloc _ _ _⟩

end Go.Proofs.Ytlkamfmepjddkaa
