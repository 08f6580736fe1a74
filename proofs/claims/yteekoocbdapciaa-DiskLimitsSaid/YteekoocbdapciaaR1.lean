/- Walks: the reference model's small methods: New, Size, Calls, off, Fail, Sync, Read. -/
import Derived.Test.YteekoocbdapciaaW5
namespace Go.Proofs.Yteekoocbdapciaa
open Go.RowKit Go.Lib

/-- The state of the model. -/
structure RS where
  now : ByteArray
  synced : ByteArray
  parts : List (Nat × ByteArray)
  n : Int
  left : Int
  limit : Bool

structure RefP (w : World) (B b : Nat) (vp : Value) (s : RS) : Prop where
  hB : B ≤ b
  obj : w.heap[b]? = some (.cells #[.string s.now, .string s.synced, vp, .int .i64 s.n, .int .i64 s.left, .bool s.limit] 64 (0, 0))
  lat : w.ownsRow B 72 2 vp s.parts.length (partCells s.parts)
  nowlen : s.now.size ≤ 16777216
  synlen : s.synced.size ≤ 16777216
  fit : ∀ p ∈ s.parts, p.1 + p.2.size ≤ 16777216

def footR (b : Nat) (vp : Value) (k : Nat) : Prop := k = b ∨ vp.ownBlock = some k

theorem RefP.lt {w : World} {B b : Nat} {vp : Value} {s : RS} (h : RefP w B b vp s) : b < w.heap.size := (Array.getElem?_eq_some_iff.1 h.obj).1

theorem RefP.foot_lt {w : World} {B b : Nat} {vp : Value} {s : RS} (h : RefP w B b vp s) {k : Nat} (hk : footR b vp k) : B ≤ k ∧ k < w.heap.size := by
  rcases hk with rfl | hk
  · exact ⟨h.hB, h.lt⟩
  · have := ownsRow_block h.lat hk; exact ⟨this.1, this.2.1⟩

theorem RefP.keep {w w' : World} {B b : Nat} {vp : Value} {s : RS} {F : Nat → Prop} (h : RefP w B b vp s) (hk : Kp F w w') (hF : ∀ k, footR b vp k → ¬ F k) : RefP w' B b vp s :=
  ⟨h.hB, (hk.block b h.lt (hF b (.inl rfl))).trans h.obj, hk.own h.lat fun k e => hF k (.inr e), h.nowlen, h.synlen, h.fit⟩

theorem RefP.cells {w : World} {B b : Nat} {vp : Value} {s : RS} (h : RefP w B b vp s) :
    w.cell? ⟨b, 0, none⟩ = some (.string s.now) ∧ w.cell? ⟨b, 1, none⟩ = some (.string s.synced) ∧ w.cell? ⟨b, 2, none⟩ = some vp ∧ w.cell? ⟨b, 3, none⟩ = some (.int .i64 s.n) ∧ w.cell? ⟨b, 4, none⟩ = some (.int .i64 s.left) ∧ w.cell? ⟨b, 5, none⟩ = some (.bool s.limit) ∧
      ∀ j, w.frozen? ⟨b, j, none⟩ = false :=
  ⟨cell_of_row w b 0 _ _ _ h.obj, cell_of_row w b 1 _ _ _ h.obj, cell_of_row w b 2 _ _ _ h.obj, cell_of_row w b 3 _ _ _ h.obj, cell_of_row w b 4 _ _ _ h.obj, cell_of_row w b 5 _ _ _ h.obj, fun j => frozen_of_row w b j _ _ h.obj⟩

/-- The struct's cells turn, its list stays. -/
theorem RefP.nums {w w' : World} {B b : Nat} {vp : Value} {s s' : RS} (h : RefP w B b vp s) (hk : Kp (· = b) w w') (e3 : s'.parts = s.parts) (h1 : s'.now.size ≤ 16777216) (h2 : s'.synced.size ≤ 16777216)
    (ho : w'.heap[b]? = some (.cells #[.string s'.now, .string s'.synced, vp, .int .i64 s'.n, .int .i64 s'.left, .bool s'.limit] 64 (0, 0))) : RefP w' B b vp s' := by
  have a3 := other_type h.lat h.obj (by decide)
  refine ⟨h.hB, ho, ?_, h1, h2, by rw [e3]; exact h.fit⟩
  rw [e3]
  exact hk.own h.lat fun k e hk => a3 (by rw [← hk, e])

set_option maxHeartbeats 400000 in
theorem rnew_any (w : World) : Calls Try.prog 15 #[] w fun e w' => e = .returned (.pointer (some ⟨w.heap.size, 0, none⟩)) ∧
    w.alloc (.cells #[.string ByteArray.empty, .string ByteArray.empty, .slice none 0 0, .int .i64 0, .int .i64 0, .bool false] 64) = w' := by
  go_enter Try.func15, Try.ntmps15
  go_wp2
  go_ret
  exact ⟨rfl, rfl⟩

set_option maxHeartbeats 400000 in
theorem rsize_walk (w : World) (b : Nat) (s : ByteArray) (h : w.cell? ⟨b, 0, none⟩ = some (.string s)) :
    Calls Try.prog 18 #[.pointer (some ⟨b, 0, none⟩)] w fun e w' => e = .returned (.int .i64 s.size) ∧ w = w' := by
  go_enter Try.func18, Try.ntmps18
  go_wp2
  go_ret
  exact ⟨rfl, rfl⟩

theorem rsize_any {w : World} {B b : Nat} {vp : Value} {s : RS} (h : RefP w B b vp s) :
    Calls Try.prog 18 #[.pointer (some ⟨b, 0, none⟩)] w fun e w' => e = .returned (.int .i64 s.now.size) ∧ w = w' := rsize_walk w b _ h.cells.1

set_option maxHeartbeats 400000 in
theorem rcalls_walk (w : World) (b : Nat) (n : Int) (h : w.cell? ⟨b, 3, none⟩ = some (.int .i64 n)) :
    Calls Try.prog 20 #[.pointer (some ⟨b, 0, none⟩)] w fun e w' => e = .returned (.int .i64 n) ∧ w = w' := by
  go_enter Try.func20, Try.ntmps20
  go_wp2
  go_ret
  exact ⟨rfl, rfl⟩

theorem rcalls_any {w : World} {B b : Nat} {vp : Value} {s : RS} (h : RefP w B b vp s) :
    Calls Try.prog 20 #[.pointer (some ⟨b, 0, none⟩)] w fun e w' => e = .returned (.int .i64 s.n) ∧ w = w' := rcalls_walk w b _ h.cells.2.2.2.1

def RS.off (s : RS) : Bool := s.limit && s.left == 0
def RS.tick (s : RS) : RS := { s with n := wrap64 (s.n + 1), left := wrap64 (s.left - 1) }

set_option maxHeartbeats 400000 in
theorem off_yes_walk (w : World) (b : Nat) (h5 : w.cell? ⟨b, 5, none⟩ = some (.bool true)) (h4 : w.cell? ⟨b, 4, none⟩ = some (.int .i64 0)) :
    Calls Try.prog 41 #[.pointer (some ⟨b, 0, none⟩)] w fun e w' => e = .returned (.bool true) ∧ w = w' := by
  go_enter Try.func41, Try.ntmps41
  go_wp2
  go_ret
  exact ⟨rfl, rfl⟩

set_option maxHeartbeats 400000 in
theorem off_lim_walk (w : World) (b : Nat) (l n : Int) (hl : (l == 0) = false) (h5 : w.cell? ⟨b, 5, none⟩ = some (.bool true)) (h4 : w.cell? ⟨b, 4, none⟩ = some (.int .i64 l)) (h3 : w.cell? ⟨b, 3, none⟩ = some (.int .i64 n))
    (f3 : w.frozen? ⟨b, 3, none⟩ = false) (f4 : w.frozen? ⟨b, 4, none⟩ = false) :
    Calls Try.prog 41 #[.pointer (some ⟨b, 0, none⟩)] w fun e w' => e = .returned (.bool false) ∧ (w.setCell ⟨b, 4, none⟩ (.int .i64 (wrap64 (l - 1)))).setCell ⟨b, 3, none⟩ (.int .i64 (wrap64 (n + 1))) = w' := by
  go_enter Try.func41, Try.ntmps41
  go_wp2
  go_ret
  exact ⟨rfl, rfl⟩

set_option maxHeartbeats 400000 in
theorem off_free_walk (w : World) (b : Nat) (l n : Int) (h5 : w.cell? ⟨b, 5, none⟩ = some (.bool false)) (h4 : w.cell? ⟨b, 4, none⟩ = some (.int .i64 l)) (h3 : w.cell? ⟨b, 3, none⟩ = some (.int .i64 n))
    (f3 : w.frozen? ⟨b, 3, none⟩ = false) (f4 : w.frozen? ⟨b, 4, none⟩ = false) :
    Calls Try.prog 41 #[.pointer (some ⟨b, 0, none⟩)] w fun e w' => e = .returned (.bool false) ∧ (w.setCell ⟨b, 4, none⟩ (.int .i64 (wrap64 (l - 1)))).setCell ⟨b, 3, none⟩ (.int .i64 (wrap64 (n + 1))) = w' := by
  go_enter Try.func41, Try.ntmps41
  go_wp2
  go_ret
  exact ⟨rfl, rfl⟩

theorem off_yes {w : World} {B b : Nat} {vp : Value} {s : RS} (h : RefP w B b vp s) (ho : s.off = true) :
    Calls Try.prog 41 #[.pointer (some ⟨b, 0, none⟩)] w fun e w' => e = .returned (.bool true) ∧ w = w' := by
  obtain ⟨c0, c1, c2, c3, c4, c5, cf⟩ := h.cells
  simp only [RS.off, Bool.and_eq_true, beq_iff_eq] at ho
  rw [ho.1] at c5
  rw [ho.2] at c4
  exact off_yes_walk w b c5 c4

theorem off_no {w : World} {B b : Nat} {vp : Value} {s : RS} (h : RefP w B b vp s) (ho : s.off = false) :
    Calls Try.prog 41 #[.pointer (some ⟨b, 0, none⟩)] w fun e w' => e = .returned (.bool false) ∧ RefP w' B b vp s.tick ∧ Kp (· = b) w w' ∧ w'.heap.size = w.heap.size := by
  obtain ⟨c0, c1, c2, c3, c4, c5, cf⟩ := h.cells
  have key : Calls Try.prog 41 #[.pointer (some ⟨b, 0, none⟩)] w fun e w' => e = .returned (.bool false) ∧ (w.setCell ⟨b, 4, none⟩ (.int .i64 (wrap64 (s.left - 1)))).setCell ⟨b, 3, none⟩ (.int .i64 (wrap64 (s.n + 1))) = w' := by
    cases hl : s.limit with
    | true =>
      rw [hl] at c5
      exact off_lim_walk w b _ _ (by rw [RS.off, hl] at ho; simpa using ho) c5 c4 c3 (cf 3) (cf 4)
    | false =>
      rw [hl] at c5
      exact off_free_walk w b _ _ c5 c4 c3 (cf 3) (cf 4)
  refine key.mono ?_
  rintro e w' ⟨rfl, rfl⟩
  have hk : Kp (· = b) w ((w.setCell ⟨b, 4, none⟩ (.int .i64 (wrap64 (s.left - 1)))).setCell ⟨b, 3, none⟩ (.int .i64 (wrap64 (s.n + 1)))) :=
    (Kp.setCell (F := (· = b)) w (a := ⟨b, 4, none⟩) _ rfl).trans (Kp.setCell (F := (· = b)) _ (a := ⟨b, 3, none⟩) _ rfl) fun k e => .inl e
  refine ⟨rfl, h.nums hk rfl h.nowlen h.synlen ?_, hk, by simp [World.setCell]⟩
  rw [heap_setCell_same _ b 3 _ 64 _ (heap_setCell_same w b 4 _ 64 _ h.obj)]
  simp [RS.tick]

def RS.fail (s : RS) (n : Int) : RS := { s with limit := decide (0 ≤ n), left := n }

set_option maxHeartbeats 400000 in
theorem rfail_walk (w : World) (b : Nat) (n : Int) (x y : Value) (h4 : w.cell? ⟨b, 4, none⟩ = some x) (h5 : w.cell? ⟨b, 5, none⟩ = some y) (f4 : w.frozen? ⟨b, 4, none⟩ = false) (f5 : w.frozen? ⟨b, 5, none⟩ = false) :
    Calls Try.prog 35 #[.pointer (some ⟨b, 0, none⟩), .int .i64 n] w fun e w' => e = .returned (.tuple #[]) ∧
      (w.setCell ⟨b, 5, none⟩ (.bool (decide (0 ≤ n)))).setCell ⟨b, 4, none⟩ (.int .i64 n) = w' := by
  go_enter Try.func35, Try.ntmps35
  go_wp2
  go_end0
  exact ⟨rfl, rfl⟩

theorem rfail_any {w : World} {B b : Nat} {vp : Value} {s : RS} (h : RefP w B b vp s) (n : Int) :
    Calls Try.prog 35 #[.pointer (some ⟨b, 0, none⟩), .int .i64 n] w fun e w' => e = .returned (.tuple #[]) ∧ RefP w' B b vp (s.fail n) ∧ Kp (· = b) w w' := by
  obtain ⟨c0, c1, c2, c3, c4, c5, cf⟩ := h.cells
  refine (rfail_walk w b n _ _ c4 c5 (cf 4) (cf 5)).mono ?_
  rintro e w' ⟨rfl, rfl⟩
  have hk := (Kp.setCell (F := (· = b)) w (a := ⟨b, 5, none⟩) (.bool (decide (0 ≤ n))) rfl).trans (Kp.setCell (F := (· = b)) _ (a := ⟨b, 4, none⟩) (.int .i64 n) rfl) fun k e => .inl e
  refine ⟨rfl, h.nums hk rfl h.nowlen h.synlen ?_, hk⟩
  rw [heap_setCell_same _ b 4 _ 64 _ (heap_setCell_same w b 5 _ 64 _ h.obj)]
  simp [RS.fail]

def RS.sync (s : RS) : RS := { s.tick with synced := s.now, parts := [] }

set_option maxHeartbeats 400000 in
theorem rsync_off {w : World} {B b : Nat} {vp : Value} {s : RS} (h : RefP w B b vp s) (ho : s.off = true) :
    Calls Try.prog 33 #[.pointer (some ⟨b, 0, none⟩)] w fun e w' => e = .returned (.int .i64 50) ∧ w = w' := by
  go_enter Try.func33, Try.ntmps33
  go_wp2_with (go_at_call 41; refine (off_yes h ho).mono ?_; rintro e w' ⟨rfl, rfl⟩)
  go_ret
  exact ⟨rfl, rfl⟩

set_option maxHeartbeats 400000 in
theorem rsync_on {w : World} {B b : Nat} {vp : Value} {s : RS} (h : RefP w B b vp s) (ho : s.off = false) :
    Calls Try.prog 33 #[.pointer (some ⟨b, 0, none⟩)] w fun e w' => e = .returned (.int .i64 0) ∧ RefP w' B b (.slice none 0 0) s.sync ∧ Kp (· = b) w w' := by
  go_enter Try.func33, Try.ntmps33
  go_wp2_with fail
  refine (off_no h ho).mono ?_
  rintro e w1 ⟨rfl, h1, hk1, hs1⟩
  obtain ⟨c0, c1, c2, c3, c4, c5, cf⟩ := h1.cells
  have H1 := Lib.hid h1
  have HK := Lib.hid hk1
  have HS := Lib.hid hs1
  clear h1 hk1 hs1 c3 c4 c5
  go_wp2
  go_ret
  have hk : Kp (· = b) w1 ((w1.setCell ⟨b, 1, none⟩ (.string s.now)).setCell ⟨b, 2, none⟩ (.slice none 0 0)) :=
    (Kp.setCell (F := (· = b)) w1 (a := ⟨b, 1, none⟩) _ rfl).trans (Kp.setCell (F := (· = b)) _ (a := ⟨b, 2, none⟩) _ rfl) fun k e => .inl e
  refine ⟨rfl, ⟨H1.out.hB, ?_, ⟨rfl, .inl ⟨rfl, rfl⟩⟩, H1.out.nowlen, H1.out.nowlen, fun p hp => by cases hp⟩, HK.out.trans hk fun k e => .inl e⟩
  rw [heap_setCell_same _ b 2 _ 64 _ (heap_setCell_same w1 b 1 _ 64 _ H1.out.obj)]
  rfl

/-! ### Read -/
set_option maxHeartbeats 400000 in
theorem rread_neg (w : World) (b : Nat) (off n : Int) (h : off < 0) : Calls Try.prog 31 #[.pointer (some ⟨b, 0, none⟩), .int .i64 off, .int .i64 n] w fun e w' => e = .returned (.string ByteArray.empty) ∧ w = w' := by
  go_enter Try.func31, Try.ntmps31
  go_wp2
  go_ret
  exact ⟨rfl, rfl⟩

set_option maxHeartbeats 400000 in
theorem rread_few (w : World) (b : Nat) (off n : Int) (h0 : 0 ≤ off) (h : n < 1) : Calls Try.prog 31 #[.pointer (some ⟨b, 0, none⟩), .int .i64 off, .int .i64 n] w fun e w' => e = .returned (.string ByteArray.empty) ∧ w = w' := by
  go_enter Try.func31, Try.ntmps31
  go_wp2
  go_ret
  exact ⟨rfl, rfl⟩

set_option maxHeartbeats 400000 in
theorem rread_far (w : World) (b : Nat) (off n : Int) (s : ByteArray) (h0 : 0 ≤ off) (h1 : 1 ≤ n) (hN : (s.size : Int) ≤ off) (hc : w.cell? ⟨b, 0, none⟩ = some (.string s)) :
    Calls Try.prog 31 #[.pointer (some ⟨b, 0, none⟩), .int .i64 off, .int .i64 n] w fun e w' => e = .returned (.string ByteArray.empty) ∧ w = w' := by
  go_enter Try.func31, Try.ntmps31
  go_wp2
  go_ret
  exact ⟨rfl, rfl⟩

set_option maxHeartbeats 400000 in
theorem rread_some (w : World) (b : Nat) (off : Nat) (n : Int) (s : ByteArray) (m : Nat) (h1 : 1 ≤ n) (hN : off < s.size) (hNm : s.size ≤ 16777216) (hm : (m : Int) = min n ((s.size : Int) - (off : Int))) (hc : w.cell? ⟨b, 0, none⟩ = some (.string s)) :
    Calls Try.prog 31 #[.pointer (some ⟨b, 0, none⟩), .int .i64 off, .int .i64 n] w fun e w' => e = .returned (.string (s.extract off (off + m))) ∧ ∃ j, w' = w.drewN j := by
  have hmin : (if (s.size : Int) - (off : Int) < n then (s.size : Int) - (off : Int) else n) = (m : Int) := by rw [hm]; split <;> omega
  have hmb : off + m ≤ s.size := by omega
  have Hm := Lib.hid hm
  clear hm
  go_enter Try.func31, Try.ntmps31
  go_wp2
  go_quiet (fail)
  go_wp2
  go_ret
  exact ⟨rfl, nq, rfl⟩

theorem rread_any {w : World} {B b : Nat} {vp : Value} {s : RS} (h : RefP w B b vp s) (off n : Int) :
    Calls Try.prog 31 #[.pointer (some ⟨b, 0, none⟩), .int .i64 off, .int .i64 n] w fun e w' => e = .returned (.string (readL s.now.data.toList off n)) ∧ ∃ j, w' = w.drewN j := by
  have hsz := size_eq s.now
  by_cases h0 : off < 0
  · rw [readL, if_pos (.inl h0)]
    exact (rread_neg w b off n h0).mono fun e w' ⟨he, hw⟩ => ⟨he, 0, by rw [← hw]; rfl⟩
  by_cases h1 : n < 1
  · rw [readL, if_pos (.inr (.inl h1))]
    exact (rread_few w b off n (by omega) h1).mono fun e w' ⟨he, hw⟩ => ⟨he, 0, by rw [← hw]; rfl⟩
  by_cases h2 : (s.now.size : Int) ≤ off
  · rw [readL, if_pos (.inr (.inr (by omega)))]
    exact (rread_far w b off n _ (by omega) (by omega) h2 h.cells.1).mono fun e w' ⟨he, hw⟩ => ⟨he, 0, by rw [← hw]; rfl⟩
  obtain ⟨off, rfl⟩ := Int.eq_ofNat_of_zero_le (show 0 ≤ off by omega)
  rw [readL, if_neg (by omega)]
  obtain ⟨m, hm⟩ : ∃ m : Nat, (m : Int) = min n ((s.now.size : Int) - (off : Int)) := ⟨(min n ((s.now.size : Int) - (off : Int))).toNat, by omega⟩
  have hX : s.now.extract off (off + m) = ⟨((s.now.data.toList.drop off).take n.toNat).toArray⟩ := by
    have e : s.now = ⟨s.now.data.toList.toArray⟩ := by simp
    rw [e, ByteArray.extract_mk, ← e]
    congr 2
    rw [show off + m - off = m by omega]
    rcases Int.le_total n ((s.now.size : Int) - (off : Int)) with h3 | h3
    · rw [show m = n.toNat by omega]
    · rw [List.take_of_length_le (by rw [List.length_drop]; omega), List.take_of_length_le (by rw [List.length_drop]; omega)]
  rw [show (Int.toNat (off : Int)) = off from rfl, ← hX]
  exact rread_some w b off n s.now m (by omega) (by omega) h.nowlen hm h.cells.1

end Go.Proofs.Yteekoocbdapciaa
