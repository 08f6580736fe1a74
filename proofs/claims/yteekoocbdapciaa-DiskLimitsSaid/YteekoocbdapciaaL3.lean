/- The contracts of both disks in one form each, and the relation between a disk and its model. -/
import Derived.Test.YteekoocbdapciaaL2
namespace Go.Proofs.Yteekoocbdapciaa
open Go.RowKit Go.Lib

/-- Behind a method of the disk: its value, the disk's new state, what was kept. -/
def DPost (B b : Nat) (F : Nat → Prop) (w : World) (v : Value) (s' : DS) (e : Ending) (w' : World) : Prop :=
  e = .returned v ∧ ∃ vn' vs' vl', DiskP w' B b vn' vs' vl' s' ∧ Kp F w w' ∧ ∀ k, foot b vn' vs' vl' k → F k ∨ w.heap.size ≤ k

def RPost (B b : Nat) (F : Nat → Prop) (w : World) (v : Value) (s' : RS) (e : Ending) (w' : World) : Prop :=
  e = .returned v ∧ ∃ vp', RefP w' B b vp' s' ∧ Kp F w w' ∧ ∀ k, footR b vp' k → F k ∨ w.heap.size ≤ k

def DS.syncC (s : DS) : Int := if s.off then 50 else 0
def DS.syncS (s : DS) : DS := if s.off then s else s.sync
def RS.syncC (s : RS) : Int := if s.off then 50 else 0
def RS.syncS (s : RS) : RS := if s.off then s else s.sync
def badW (off : Int) (t : ByteArray) : Bool := decide (off < 0) || decide (16777216 < off + t.size)
def DS.writeC (s : DS) (off : Int) (t : ByteArray) : Int := if badW off t then 1 else if s.off then 50 else 0
def DS.writeS (s : DS) (off : Int) (t : ByteArray) : DS := if badW off t then s else if s.off then s else s.write off.toNat t
def RS.writeC (s : RS) (off : Int) (t : ByteArray) : Int := if badW off t then 1 else if s.off then 50 else 0
def RS.writeS (s : RS) (off : Int) (t : ByteArray) : RS := if badW off t then s else if s.off then s else s.write off.toNat t

theorem sync_D {w : World} {B b : Nat} {vn vs vl : Value} {s : DS} (h : DiskP w B b vn vs vl s) :
    Calls Try.prog 28 #[.pointer (some ⟨b, 0, none⟩)] w (DPost B b (foot b vn vs vl) w (.int .i64 s.syncC) s.syncS) := by
  cases ho : s.off with
  | true =>
    refine (sync_off h ho).mono ?_
    rintro e w' ⟨rfl, rfl⟩
    exact ⟨by simp [DS.syncC, ho], vn, vs, vl, by simpa [DS.syncS, ho] using h, Kp.refl _ _, fun k hk => .inl hk⟩
  | false =>
    refine (sync_on h ho).mono ?_
    rintro e w' ⟨rfl, vs', vl', hd, hk, hl, g, hg, hgs⟩
    refine ⟨by simp [DS.syncC, ho], vn, vs', vl', by simpa [DS.syncS, ho] using hd, hk.mono fun k e => .inl (.inl e), fun k hk => ?_⟩
    rcases hk with hk | hk | hk | hk
    · exact .inl (.inl hk)
    · exact .inl (.inr (.inl hk))
    · rw [hg] at hk; cases hk; exact .inr hgs
    · rw [hl] at hk; cases hk

theorem sync_R {w : World} {B b : Nat} {vp : Value} {s : RS} (h : RefP w B b vp s) :
    Calls Try.prog 33 #[.pointer (some ⟨b, 0, none⟩)] w (RPost B b (footR b vp) w (.int .i64 s.syncC) s.syncS) := by
  cases ho : s.off with
  | true =>
    refine (rsync_off h ho).mono ?_
    rintro e w' ⟨rfl, rfl⟩
    exact ⟨by simp [RS.syncC, ho], vp, by simpa [RS.syncS, ho] using h, Kp.refl _ _, fun k hk => .inl hk⟩
  | false =>
    refine (rsync_on h ho).mono ?_
    rintro e w' ⟨rfl, hd, hk⟩
    refine ⟨by simp [RS.syncC, ho], _, by simpa [RS.syncS, ho] using hd, hk.mono fun k e => .inl (.inl e), fun k hk => ?_⟩
    rcases hk with hk | hk
    · exact .inl (.inl hk)
    · cases hk

theorem write_D {w : World} {B b : Nat} {vn vs vl : Value} {s : DS} (h : DiskP w B b vn vs vl s) (off : Int) (t : ByteArray) (ht : t.size ≤ 140737488355328) (hl : s.later.length ≤ 1000000000) :
    Calls Try.prog 27 #[.pointer (some ⟨b, 0, none⟩), .int .i64 off, .string t] w (DPost B b (foot b vn vs vl) w (.int .i64 (s.writeC off t)) (s.writeS off t)) := by
  by_cases hb : badW off t = true
  · have hc : Calls Try.prog 27 #[.pointer (some ⟨b, 0, none⟩), .int .i64 off, .string t] w fun e w' => e = .returned (.int .i64 1) ∧ w = w' := by
      simp only [badW, Bool.or_eq_true, decide_eq_true_eq] at hb
      by_cases h0 : off < 0
      · exact write_neg w b off t h0
      · exact write_far w b off t (by omega) (by omega) (by omega)
    refine hc.mono ?_
    rintro e w' ⟨rfl, rfl⟩
    exact ⟨by simp [DS.writeC, hb], vn, vs, vl, by simpa [DS.writeS, hb] using h, Kp.refl _ _, fun k hk => .inl hk⟩
  · have hb2 : badW off t = false := by simpa using hb
    have hbb := hb2
    simp only [badW, Bool.or_eq_false_iff, decide_eq_false_iff_not] at hbb
    obtain ⟨off, rfl⟩ := Int.eq_ofNat_of_zero_le (show 0 ≤ off by omega)
    cases ho : s.off with
    | true =>
      refine (write_off h ho off t (by omega)).mono ?_
      rintro e w' ⟨rfl, rfl⟩
      exact ⟨by simp [DS.writeC, hb2, ho], vn, vs, vl, by simpa [DS.writeS, hb2, ho] using h, Kp.refl _ _, fun k hk => .inl hk⟩
    | false =>
      refine (write_on h ho off t (by omega) hl).mono ?_
      rintro e w' ⟨rfl, vn', vl', hd, hk, hf⟩
      exact ⟨by simp [DS.writeC, hb2, ho], vn', vs, vl', by simpa [DS.writeS, hb2, ho] using hd, hk, hf⟩

theorem write_R {w : World} {B b : Nat} {vp : Value} {s : RS} (h : RefP w B b vp s) (off : Int) (t : ByteArray) (ht : t.size ≤ 140737488355328) (hl : s.parts.length ≤ 1000000000) :
    Calls Try.prog 32 #[.pointer (some ⟨b, 0, none⟩), .int .i64 off, .string t] w (RPost B b (footR b vp) w (.int .i64 (s.writeC off t)) (s.writeS off t)) := by
  by_cases hb : badW off t = true
  · have hbb := hb
    simp only [badW, Bool.or_eq_true, decide_eq_true_eq] at hbb
    refine (rwrite_arg w b off t ht hbb).mono ?_
    rintro e w' ⟨rfl, rfl⟩
    exact ⟨by simp [RS.writeC, hb], vp, by simpa [RS.writeS, hb] using h, Kp.refl _ _, fun k hk => .inl hk⟩
  · have hb2 : badW off t = false := by simpa using hb
    have hbb := hb2
    simp only [badW, Bool.or_eq_false_iff, decide_eq_false_iff_not] at hbb
    obtain ⟨off, rfl⟩ := Int.eq_ofNat_of_zero_le (show 0 ≤ off by omega)
    cases ho : s.off with
    | true =>
      refine (rwrite_off h ho off t (by omega)).mono ?_
      rintro e w' ⟨rfl, rfl⟩
      exact ⟨by simp [RS.writeC, hb2, ho], vp, by simpa [RS.writeS, hb2, ho] using h, Kp.refl _ _, fun k hk => .inl hk⟩
    | false =>
      refine (rwrite_on h ho off t (by omega) hl).mono ?_
      rintro e w' ⟨rfl, vp', hd, hk, hf⟩
      exact ⟨by simp [RS.writeC, hb2, ho], vp', by simpa [RS.writeS, hb2, ho] using hd, hk, hf⟩

theorem fail_D {w : World} {B b : Nat} {vn vs vl : Value} {s : DS} (h : DiskP w B b vn vs vl s) (n : Int) :
    Calls Try.prog 30 #[.pointer (some ⟨b, 0, none⟩), .int .i64 n] w (DPost B b (foot b vn vs vl) w (.tuple #[]) (s.fail n)) :=
  (fail_any h n).mono fun _ _ ⟨he, hd, hk⟩ => ⟨he, vn, vs, vl, hd, hk.mono fun _ e => .inl (.inl e), fun _ hk => .inl hk⟩

theorem fail_R {w : World} {B b : Nat} {vp : Value} {s : RS} (h : RefP w B b vp s) (n : Int) :
    Calls Try.prog 35 #[.pointer (some ⟨b, 0, none⟩), .int .i64 n] w (RPost B b (footR b vp) w (.tuple #[]) (s.fail n)) :=
  (rfail_any h n).mono fun _ _ ⟨he, hd, hk⟩ => ⟨he, vp, hd, hk.mono fun _ e => .inl (.inl e), fun _ hk => .inl hk⟩

/-- The disk and its model hold the same. -/
structure Same (s : DS) (r : RS) : Prop where
  now : r.now.data.toList = s.now
  syn : r.synced.data.toList = s.synced
  parts : r.parts = s.later
  n : r.n = s.calls
  pow : s.power = if r.limit then 1 else 0
  left : r.limit = true → r.left = s.left

theorem Same.off {s : DS} {r : RS} (h : Same s r) : r.off = s.off := by
  unfold RS.off DS.off
  rw [h.pow]
  cases hl : r.limit with
  | true => simp [h.left hl]
  | false => simp

theorem Same.tick {s : DS} {r : RS} (h : Same s r) : Same s.tick r.tick := by
  refine ⟨h.now, h.syn, h.parts, by simp [RS.tick, DS.tick, h.n], h.pow, fun hl => ?_⟩
  have hl' : r.limit = true := hl
  simp [RS.tick, DS.tick, h.pow, hl', h.left hl']

theorem Same.sync {s : DS} {r : RS} (h : Same s r) : Same s.syncS r.syncS ∧ r.syncC = s.syncC := by
  unfold DS.syncS RS.syncS RS.syncC DS.syncC
  rw [h.off]
  cases ho : s.off with
  | true => exact ⟨h, rfl⟩
  | false =>
    have t := h.tick
    exact ⟨⟨t.now, h.now, rfl, t.n, t.pow, t.left⟩, rfl⟩

theorem Same.write {s : DS} {r : RS} (h : Same s r) (off : Int) (t : ByteArray) : Same (s.writeS off t) (r.writeS off t) ∧ r.writeC off t = s.writeC off t := by
  unfold DS.writeS RS.writeS RS.writeC DS.writeC
  rw [h.off]
  cases badW off t with
  | true => exact ⟨h, rfl⟩
  | false =>
    cases ho : s.off with
    | true => exact ⟨h, rfl⟩
    | false =>
      have k := h.tick
      refine ⟨⟨?_, h.syn, ?_, k.n, k.pow, k.left⟩, rfl⟩
      · simp [RS.write, DS.write, putB, h.now]
      · simp [RS.write, DS.write, h.parts]

theorem Same.fail {s : DS} {r : RS} (h : Same s r) (n : Int) : Same (s.fail n) (r.fail n) := by
  refine ⟨h.now, h.syn, h.parts, h.n, ?_, fun _ => rfl⟩
  simp only [RS.fail, DS.fail]
  by_cases hn : n < 0
  · simp [hn, show ¬ 0 ≤ n by omega]
  · simp [hn, show 0 ≤ n by omega]

theorem crash_same (q : List Int) : ∀ (l : List (Nat × ByteArray)) (k : Nat) (c : ByteArray), (rcrashF q k l c).data.toList = crashF q k l c.data.toList := by
  intro l
  induction l with
  | nil => intros; rfl
  | cons p l ih =>
    intro k c
    rw [rcrashF, crashF, ih]
    cases oddB q k <;> simp [putB]

theorem Same.crash {s : DS} {r : RS} (h : Same s r) (q : List Int) : Same (s.crash q) (r.crash q) := by
  have e : (rcrashF q 0 r.parts r.synced).data.toList = crashF q 0 s.later s.synced := by rw [crash_same, h.parts, h.syn]
  exact ⟨e, e, rfl, rfl, rfl, fun hl => by cases hl⟩

theorem Same.fresh : Same ⟨[], [], [], 0, 0, 0⟩ ⟨ByteArray.empty, ByteArray.empty, [], 0, 0, false⟩ := ⟨rfl, rfl, rfl, rfl, rfl, fun h => by cases h⟩

/-- How many pieces a write adds. -/
theorem partsF_len : ∀ (k off : Nat) (s : ByteArray), (partsF k off s).length ≤ k := by
  intro k
  induction k with
  | zero => intros; exact Nat.le_refl _
  | succ k ih =>
    intro off s
    rw [partsF]
    split
    · simp
    · simp; exact ih _ _

theorem writeS_len (s : DS) (off : Int) (t : ByteArray) : (s.writeS off t).later.length ≤ s.later.length + t.size := by
  unfold DS.writeS
  split
  · omega
  · split
    · omega
    · simp [DS.write]; exact partsF_len _ _ _

end Go.Proofs.Yteekoocbdapciaa
