/- Walks: the small methods of disk.Disk: New, Size, Calls, call, Fail, Sync. -/
import Derived.Test.YteekoocbdapciaaW1
import Derived.Test.YteekoocbdapciaaDef
namespace Go.Proofs.Yteekoocbdapciaa
open Go.RowKit Go.Lib

set_option maxHeartbeats 400000 in
theorem new_any (w : World) : Calls Try.prog 14 #[] w fun e w' => e = .returned (.pointer (some ⟨w.heap.size, 0, none⟩)) ∧
    w.alloc (.cells #[.slice none 0 0, .slice none 0 0, .slice none 0 0, .int .i64 0, .int .i64 0, .int .i64 0] 60) = w' := by
  go_enter Try.func14, Try.ntmps14
  go_wp2
  go_ret
  exact ⟨rfl, rfl⟩

set_option maxHeartbeats 400000 in
theorem size_nil (w : World) : Calls Try.prog 17 #[.pointer none] w fun e w' => e = .returned (.int .i64 0) ∧ w = w' := by
  go_enter Try.func17, Try.ntmps17
  go_wp2
  go_ret
  exact ⟨rfl, rfl⟩

set_option maxHeartbeats 400000 in
theorem size_walk (w : World) (b : Nat) (sp : Option Addr) (n cap : Nat) (h : w.cell? ⟨b, 0, none⟩ = some (.slice sp n cap)) :
    Calls Try.prog 17 #[.pointer (some ⟨b, 0, none⟩)] w fun e w' => e = .returned (.int .i64 n) ∧ w = w' := by
  go_enter Try.func17, Try.ntmps17
  go_wp2
  go_ret
  exact ⟨rfl, rfl⟩

theorem size_any {w : World} {B b : Nat} {vn vs vl : Value} {s : DS} (h : DiskP w B b vn vs vl s) :
    Calls Try.prog 17 #[.pointer (some ⟨b, 0, none⟩)] w fun e w' => e = .returned (.int .i64 s.now.length) ∧ w = w' := by
  obtain ⟨sp, cap, rfl, _⟩ := h.now.view
  exact size_walk w b sp _ cap h.cells.1

set_option maxHeartbeats 400000 in
theorem calls_nil (w : World) : Calls Try.prog 19 #[.pointer none] w fun e w' => e = .returned (.int .i64 0) ∧ w = w' := by
  go_enter Try.func19, Try.ntmps19
  go_wp2
  go_ret
  exact ⟨rfl, rfl⟩

set_option maxHeartbeats 400000 in
theorem calls_walk (w : World) (b : Nat) (n : Int) (h : w.cell? ⟨b, 3, none⟩ = some (.int .i64 n)) :
    Calls Try.prog 19 #[.pointer (some ⟨b, 0, none⟩)] w fun e w' => e = .returned (.int .i64 n) ∧ w = w' := by
  go_enter Try.func19, Try.ntmps19
  go_wp2
  go_ret
  exact ⟨rfl, rfl⟩

theorem calls_any {w : World} {B b : Nat} {vn vs vl : Value} {s : DS} (h : DiskP w B b vn vs vl s) :
    Calls Try.prog 19 #[.pointer (some ⟨b, 0, none⟩)] w fun e w' => e = .returned (.int .i64 s.calls) ∧ w = w' :=
  calls_walk w b _ h.cells.2.2.2.1

/-- The power is off. -/
def DS.off (s : DS) : Bool := s.power == 1 && s.left == 0
/-- A call that succeeds is counted. -/
def DS.tick (s : DS) : DS := { s with calls := wrap64 (s.calls + 1), left := if s.power = 1 then wrap64 (s.left - 1) else s.left }

set_option maxHeartbeats 400000 in
theorem call_off_walk (w : World) (b : Nat) (h4 : w.cell? ⟨b, 4, none⟩ = some (.int .i64 1)) (h5 : w.cell? ⟨b, 5, none⟩ = some (.int .i64 0)) :
    Calls Try.prog 40 #[.pointer (some ⟨b, 0, none⟩)] w fun e w' => e = .returned (.bool false) ∧ w = w' := by
  go_enter Try.func40, Try.ntmps40
  go_wp2
  go_ret
  exact ⟨rfl, rfl⟩

set_option maxHeartbeats 400000 in
theorem call_on_walk (w : World) (b : Nat) (p n : Int) (hp : (p == 1) = false) (h4 : w.cell? ⟨b, 4, none⟩ = some (.int .i64 p)) (h3 : w.cell? ⟨b, 3, none⟩ = some (.int .i64 n)) (hf : w.frozen? ⟨b, 3, none⟩ = false) :
    Calls Try.prog 40 #[.pointer (some ⟨b, 0, none⟩)] w fun e w' => e = .returned (.bool true) ∧ w.setCell ⟨b, 3, none⟩ (.int .i64 (wrap64 (n + 1))) = w' := by
  go_enter Try.func40, Try.ntmps40
  go_wp2
  go_ret
  exact ⟨rfl, rfl⟩

set_option maxHeartbeats 400000 in
theorem call_count_walk (w : World) (b : Nat) (l n : Int) (hl : (l == 0) = false) (h4 : w.cell? ⟨b, 4, none⟩ = some (.int .i64 1)) (h5 : w.cell? ⟨b, 5, none⟩ = some (.int .i64 l)) (h3 : w.cell? ⟨b, 3, none⟩ = some (.int .i64 n))
    (hf : w.frozen? ⟨b, 3, none⟩ = false) (hf5 : w.frozen? ⟨b, 5, none⟩ = false) :
    Calls Try.prog 40 #[.pointer (some ⟨b, 0, none⟩)] w fun e w' => e = .returned (.bool true) ∧ (w.setCell ⟨b, 5, none⟩ (.int .i64 (wrap64 (l - 1)))).setCell ⟨b, 3, none⟩ (.int .i64 (wrap64 (n + 1))) = w' := by
  go_enter Try.func40, Try.ntmps40
  go_wp2
  go_ret
  exact ⟨rfl, rfl⟩

theorem call_off {w : World} {B b : Nat} {vn vs vl : Value} {s : DS} (h : DiskP w B b vn vs vl s) (ho : s.off = true) :
    Calls Try.prog 40 #[.pointer (some ⟨b, 0, none⟩)] w fun e w' => e = .returned (.bool false) ∧ w = w' := by
  obtain ⟨c0, c1, c2, c3, c4, c5, cf⟩ := h.cells
  simp only [DS.off, Bool.and_eq_true, beq_iff_eq] at ho
  rw [ho.1] at c4
  rw [ho.2] at c5
  exact call_off_walk w b c4 c5

/-- Numbers of the struct turn, and nothing else. -/
theorem DiskP.nums {w w' : World} {B b : Nat} {vn vs vl : Value} {s s' : DS} (h : DiskP w B b vn vs vl s) (hk : Kp (· = b) w w') (e1 : s'.now = s.now) (e2 : s'.synced = s.synced) (e3 : s'.later = s.later)
    (ho : w'.heap[b]? = some (.cells #[vn, vs, vl, .int .i64 s'.calls, .int .i64 s'.power, .int .i64 s'.left] 60 (0, 0))) : DiskP w' B b vn vs vl s' := by
  obtain ⟨now, synced, later, calls, power, left⟩ := s'
  simp only at e1 e2 e3
  subst e1 e2 e3
  have a1 := other_type h.now h.obj (by decide)
  have a2 := other_type h.syn h.obj (by decide)
  have a3 := other_type h.lat h.obj (by decide)
  exact ⟨h.hB, ho, hk.own h.now fun k e hk => a1 (by rw [← hk, e]), hk.own h.syn fun k e hk => a2 (by rw [← hk, e]), hk.own h.lat fun k e hk => a3 (by rw [← hk, e]), h.apart, h.nowlen, h.synlen, h.parts⟩

theorem call_on {w : World} {B b : Nat} {vn vs vl : Value} {s : DS} (h : DiskP w B b vn vs vl s) (ho : s.off = false) :
    Calls Try.prog 40 #[.pointer (some ⟨b, 0, none⟩)] w fun e w' => e = .returned (.bool true) ∧ DiskP w' B b vn vs vl s.tick ∧ Kp (· = b) w w' ∧ w'.heap.size = w.heap.size := by
  obtain ⟨c0, c1, c2, c3, c4, c5, cf⟩ := h.cells
  by_cases hp : s.power = 1
  · have hl : (s.left == 0) = false := by
      rw [DS.off, hp] at ho
      simpa using ho
    rw [hp] at c4
    refine (call_count_walk w b _ _ hl c4 c5 c3 (cf 3) (cf 5)).mono ?_
    rintro e w' ⟨rfl, rfl⟩
    have hk : Kp (· = b) w ((w.setCell ⟨b, 5, none⟩ (.int .i64 (wrap64 (s.left - 1)))).setCell ⟨b, 3, none⟩ (.int .i64 (wrap64 (s.calls + 1)))) :=
      (Kp.setCell (F := (· = b)) w (a := ⟨b, 5, none⟩) _ rfl).trans (Kp.setCell (F := (· = b)) _ (a := ⟨b, 3, none⟩) _ rfl) fun k e => .inl e
    refine ⟨rfl, h.nums hk rfl rfl rfl ?_, hk, by simp [World.setCell]⟩
    rw [heap_setCell_same _ b 3 _ 60 _ (heap_setCell_same w b 5 _ 60 _ h.obj)]
    simp [DS.tick, hp]
  · refine (call_on_walk w b _ _ (by simpa using hp) c4 c3 (cf 3)).mono ?_
    rintro e w' ⟨rfl, rfl⟩
    have hk := Kp.setCell (F := (· = b)) w (a := ⟨b, 3, none⟩) (.int .i64 (wrap64 (s.calls + 1))) rfl
    refine ⟨rfl, h.nums hk rfl rfl rfl ?_, hk, by simp [World.setCell]⟩
    rw [heap_setCell_same _ b 3 _ 60 _ h.obj]
    simp [DS.tick, hp]

def DS.fail (s : DS) (n : Int) : DS := { s with power := if n < 0 then 0 else 1, left := n }

set_option maxHeartbeats 400000 in
theorem fail_nil (w : World) (n : Int) : Calls Try.prog 30 #[.pointer none, .int .i64 n] w fun e w' => e = .returned (.tuple #[]) ∧ w = w' := by
  go_enter Try.func30, Try.ntmps30
  go_wp2
  refine bodyPost_ret (results_none rfl _ _ _) rfl ?_
  exact ⟨rfl, rfl⟩

set_option maxHeartbeats 400000 in
theorem fail_pos (w : World) (b : Nat) (n : Int) (x y : Value) (hn : 0 ≤ n) (h4 : w.cell? ⟨b, 4, none⟩ = some x) (h5 : w.cell? ⟨b, 5, none⟩ = some y) (f4 : w.frozen? ⟨b, 4, none⟩ = false) (f5 : w.frozen? ⟨b, 5, none⟩ = false) :
    Calls Try.prog 30 #[.pointer (some ⟨b, 0, none⟩), .int .i64 n] w fun e w' => e = .returned (.tuple #[]) ∧
      (w.setCell ⟨b, 4, none⟩ (.int .i64 1)).setCell ⟨b, 5, none⟩ (.int .i64 n) = w' := by
  go_enter Try.func30, Try.ntmps30
  go_wp2
  go_end0
  exact ⟨rfl, rfl⟩

set_option maxHeartbeats 400000 in
theorem fail_neg (w : World) (b : Nat) (n : Int) (x y : Value) (hn : n < 0) (h4 : w.cell? ⟨b, 4, none⟩ = some x) (h5 : w.cell? ⟨b, 5, none⟩ = some y) (f4 : w.frozen? ⟨b, 4, none⟩ = false) (f5 : w.frozen? ⟨b, 5, none⟩ = false) :
    Calls Try.prog 30 #[.pointer (some ⟨b, 0, none⟩), .int .i64 n] w fun e w' => e = .returned (.tuple #[]) ∧
      ((w.setCell ⟨b, 4, none⟩ (.int .i64 1)).setCell ⟨b, 5, none⟩ (.int .i64 n)).setCell ⟨b, 4, none⟩ (.int .i64 0) = w' := by
  go_enter Try.func30, Try.ntmps30
  go_wp2
  go_end0
  exact ⟨rfl, rfl⟩

theorem fail_any {w : World} {B b : Nat} {vn vs vl : Value} {s : DS} (h : DiskP w B b vn vs vl s) (n : Int) :
    Calls Try.prog 30 #[.pointer (some ⟨b, 0, none⟩), .int .i64 n] w fun e w' => e = .returned (.tuple #[]) ∧ DiskP w' B b vn vs vl (s.fail n) ∧ Kp (· = b) w w' := by
  obtain ⟨c0, c1, c2, c3, c4, c5, cf⟩ := h.cells
  have k1 := (Kp.setCell (F := (· = b)) w (a := ⟨b, 4, none⟩) (.int .i64 1) rfl).trans (Kp.setCell (F := (· = b)) _ (a := ⟨b, 5, none⟩) (.int .i64 n) rfl) fun k e => .inl e
  have o1 := heap_setCell_same _ b 5 _ 60 (.int .i64 n) (heap_setCell_same w b 4 _ 60 (.int .i64 1) h.obj)
  by_cases hn : n < 0
  · refine (fail_neg w b n _ _ hn c4 c5 (cf 4) (cf 5)).mono ?_
    rintro e w' ⟨rfl, rfl⟩
    have k2 := k1.trans (Kp.setCell (F := (· = b)) _ (a := ⟨b, 4, none⟩) (.int .i64 0) rfl) fun k e => .inl e
    refine ⟨rfl, h.nums k2 rfl rfl rfl ?_, k2⟩
    rw [heap_setCell_same _ b 4 _ 60 (.int .i64 0) o1]
    simp [DS.fail, hn]
  · refine (fail_pos w b n _ _ (by omega) c4 c5 (cf 4) (cf 5)).mono ?_
    rintro e w' ⟨rfl, rfl⟩
    refine ⟨rfl, h.nums k1 rfl rfl rfl ?_, k1⟩
    rw [o1]
    simp [DS.fail, hn]

/-! ### Sync -/
def DS.sync (s : DS) : DS := { s.tick with synced := s.now, later := [] }

set_option maxHeartbeats 400000 in
theorem sync_nil (w : World) : Calls Try.prog 28 #[.pointer none] w fun e w' => e = .returned (.int .i64 1) ∧ w = w' := by
  go_enter Try.func28, Try.ntmps28
  go_wp2
  go_ret
  exact ⟨rfl, rfl⟩

set_option maxHeartbeats 400000 in
theorem sync_off {w : World} {B b : Nat} {vn vs vl : Value} {s : DS} (h : DiskP w B b vn vs vl s) (ho : s.off = true) :
    Calls Try.prog 28 #[.pointer (some ⟨b, 0, none⟩)] w fun e w' => e = .returned (.int .i64 50) ∧ w = w' := by
  go_enter Try.func28, Try.ntmps28
  go_wp2_with (go_at_call 40; refine (call_off h ho).mono ?_; rintro e w' ⟨rfl, rfl⟩)
  go_ret
  exact ⟨rfl, rfl⟩

def SyncPost (B b : Nat) (vn _vs _vl : Value) (s : DS) (w : World) (e : Ending) (w' : World) : Prop :=
  e = .returned (.int .i64 0) ∧ ∃ vs' vl', DiskP w' B b vn vs' vl' s.sync ∧ Kp (· = b) w w' ∧ vl'.ownBlock = none ∧ ∃ g, vs'.ownBlock = some g ∧ w.heap.size ≤ g

set_option maxHeartbeats 400000 in
theorem sync_on {w : World} {B b : Nat} {vn vs vl : Value} {s : DS} (h : DiskP w B b vn vs vl s) (ho : s.off = false) :
    Calls Try.prog 28 #[.pointer (some ⟨b, 0, none⟩)] w (SyncPost B b vn vs vl s w) := by
  go_enter Try.func28, Try.ntmps28
  go_wp2_with (go_at_call 40; refine (call_on h ho).mono ?_; rintro e w1 ⟨rfl, h1, hk1, hs1⟩; obtain ⟨c0, c1, c2, c3, c4, c5, cf⟩ := h1.cells)
  have hlt := h1.lt
  have hB1 : B ≤ w1.heap.size := by have := h1.hB; omega
  refine (own_any B w1 vn s.now h1.now hB1 h1.nowlen).mono ?_
  rintro e w2 ⟨vs', rfl, hb, hg, hn⟩
  obtain ⟨sp, cap, rfl, _⟩ := hb.view
  have hk2 := Kp.grown (F := fun _ => False) hg (fun _ h => by cases h)
  have ob := (hk2.block b hlt (fun h => h)).trans h1.obj
  have d1 := cell_of_row w2 b 1 _ _ _ ob
  have d2 := cell_of_row w2 b 2 _ _ _ ob
  have df : ∀ j, w2.frozen? ⟨b, j, none⟩ = false := fun j => frozen_of_row w2 b j _ _ ob
  have h2 := h1.keep hk2 (fun _ _ h => h)
  have HB := Lib.hid hb
  have HK := Lib.hid hk2
  have HO := Lib.hid ob
  have HN := Lib.hid hn
  have HS := Lib.hid hs1
  clear hb hg hk2 ob hn c0 c1 c2 c3 c4 c5 cf hs1
  have e0 : w2.cell? ⟨b, 2, none⟩ = (w2.setCell ⟨b, 1, none⟩ (.slice sp s.now.length cap)).cell? ⟨b, 2, none⟩ := (World.cell?_setCell_other _ _ _ _ (by simp)).symm
  clear e0
  go_wp2
  go_ret
  refine ⟨rfl, _, .slice none 0 0, ?_, ?_, rfl, w1.heap.size, HN.out, by rw [HS.out]; exact Nat.le_refl _⟩
  · have kk : Kp (· = b) w2 ((w2.setCell ⟨b, 1, none⟩ (.slice sp s.now.length cap)).setCell ⟨b, 2, none⟩ (.slice none 0 0)) :=
      (Kp.setCell (F := (· = b)) w2 (a := ⟨b, 1, none⟩) _ rfl).trans (Kp.setCell (F := (· = b)) _ (a := ⟨b, 2, none⟩) _ rfl) fun k e => .inl e
    have a1 := other_type h2.now h2.obj (by decide)
    have a2 := other_type HB.out h2.obj (by decide)
    refine ⟨h2.hB, ?_, kk.own h2.now fun k e hk => a1 (by rw [← hk, e]), kk.own HB.out fun k e hk => a2 (by rw [← hk, e]), ⟨rfl, .inl ⟨rfl, rfl⟩⟩, ?_, h2.nowlen, h2.nowlen, fun p hp => by cases hp⟩
    · rw [heap_setCell_same _ b 2 _ 60 _ (heap_setCell_same w2 b 1 _ 60 _ HO.out)]
      rfl
    · intro k hk e
      have := (ownsRow_block h1.now hk).2.1
      have e2 := HN.out.symm.trans e
      simp at e2
      omega
  · refine (hk1.trans HK.out fun _ h => h.elim).trans ((Kp.setCell (F := (· = b)) w2 (a := ⟨b, 1, none⟩) _ rfl).trans (Kp.setCell (F := (· = b)) _ (a := ⟨b, 2, none⟩) _ rfl) fun k e => .inl e) fun k e => .inl e

end Go.Proofs.Yteekoocbdapciaa
