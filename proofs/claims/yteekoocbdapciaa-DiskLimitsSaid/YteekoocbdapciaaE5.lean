/- The desk's do at any act, and its same. -/
import Derived.Test.YteekoocbdapciaaE4
namespace Go.Proofs.Yteekoocbdapciaa
open Go.RowKit Go.Lib

/-- Behind any act. -/
def DoAny (B x : Nat) (w : World) (N : Nat) (e : Ending) (w' : World) : Prop := e = .returned (.bool true) ∧ (∃ s' r', DeskAt w' B x s' r' ∧ Same s' r' ∧ s'.later.length ≤ N) ∧ Below B w w'

theorem do_any {w : World} {B x : Nat} {s : DS} {r : RS} (h : DeskAt w B x s r) (hs : Same s r) (k o n : Int) (t : ByteArray) (ht : t.size ≤ 9223372036854775807) (hl : s.later.length ≤ 1000000000) :
    Calls Try.prog 16 #[.pointer (some ⟨x, 0, none⟩), .agg #[.int .i64 k, .int .i64 o, .int .i64 n, .string t]] w (DoAny B x w (s.later.length + 200)) := by
  obtain ⟨bd, bm, vn, vs, vl, vp, h⟩ := h
  by_cases h4 : k % 8 = 4
  · refine (do_sync h hs k o n t h4).mono ?_
    rintro e w' ⟨rfl, hd, hb⟩
    refine ⟨rfl, ⟨_, _, hd, hs.sync.1, ?_⟩, hb⟩
    unfold DS.syncS
    split
    · omega
    · simp [DS.sync]
  by_cases h5 : k % 8 = 5
  · refine (do_read h hs k o n t h5).mono ?_
    rintro e w' ⟨rfl, hd, hb⟩
    exact ⟨rfl, ⟨_, _, hd, hs, by omega⟩, hb⟩
  by_cases h6 : k % 8 = 6
  · refine (do_fail h k o n t h6).mono ?_
    rintro e w' ⟨rfl, hd, hb⟩
    exact ⟨rfl, ⟨_, _, hd, hs.fail _, by simp [DS.fail]⟩, hb⟩
  by_cases h7 : k % 8 = 7
  · refine (do_crash h hs k o n t h7 hl).mono ?_
    rintro e w' ⟨rfl, hd, hb⟩
    exact ⟨rfl, ⟨_, _, hd, hs.crash _, by simp [DS.crash]⟩, hb⟩
  · refine (do_write h hs k o n t (by omega) ht hl).mono ?_
    rintro e w' ⟨rfl, hd, hb⟩
    refine ⟨rfl, ⟨_, _, hd, (hs.write _ _).1, ?_⟩, hb⟩
    have := writeS_len s (whereI o) (longB t n)
    have := longB_size t n
    omega

theorem Same.size {s : DS} {r : RS} (h : Same s r) : r.now.size = s.now.length := by rw [size_eq, h.now]

theorem rsize_same {w : World} {B b : Nat} {vp : Value} {s : DS} {r : RS} (h : RefP w B b vp r) (hs : Same s r) :
    Calls Try.prog 18 #[.pointer (some ⟨b, 0, none⟩)] w fun e w' => e = .returned (.int .i64 s.now.length) ∧ w = w' := by
  rw [← hs.size]; exact rsize_any h
theorem rcalls_same {w : World} {B b : Nat} {vp : Value} {s : DS} {r : RS} (h : RefP w B b vp r) (hs : Same s r) :
    Calls Try.prog 20 #[.pointer (some ⟨b, 0, none⟩)] w fun e w' => e = .returned (.int .i64 s.calls) ∧ w = w' := by
  rw [← hs.n]; exact rcalls_any h
theorem rread_same {w : World} {B b : Nat} {vp : Value} {s : DS} {r : RS} (h : RefP w B b vp r) (hs : Same s r) (off n : Int) :
    Calls Try.prog 31 #[.pointer (some ⟨b, 0, none⟩), .int .i64 off, .int .i64 n] w fun e w' => e = .returned (.string (readL s.now off n)) ∧ ∃ j, w' = w.drewN j := by
  rw [← hs.now]; exact rread_any h off n

theorem quiet_eq {w : World} {f : FuncId} {args : Array Value} {v : Value} {n : Nat} (h : Calls Try.prog f args (w.drewN n) fun e w' => e = .returned v ∧ w.drewN n = w') :
    Calls Try.prog f args (w.drewN n) fun e w'' => e = .returned v ∧ ∃ m, w'' = w.drewN m := h.mono fun _ _ ⟨he, hw⟩ => ⟨he, n, hw.symm⟩

set_option maxHeartbeats 1000000 in
theorem same_any {w : World} {B x : Nat} {s : DS} {r : RS} (h : DeskAt w B x s r) (hs : Same s r) :
    Calls Try.prog 21 #[.pointer (some ⟨x, 0, none⟩)] w fun e w' => e = .returned (.bool true) ∧ ∃ j, w' = w.drewN j := by
  obtain ⟨bd, bm, vn, vs, vl, vp, h⟩ := h
  obtain ⟨x0, x1⟩ := h.x01
  have H := Lib.hid h
  have HS := Lib.hid hs
  clear h hs
  go_enter Try.func21, Try.ntmps21
  go_wp2_with fail
  go_quiet ((first
    | (go_at_call 17; exact quiet_eq (size_any (H.out.keep (Kp.drewN _ _ _)).d))
    | (go_at_call 18; exact quiet_eq (rsize_same (H.out.keep (Kp.drewN _ _ _)).r HS.out))
    | (go_at_call 19; exact quiet_eq (calls_any (H.out.keep (Kp.drewN _ _ _)).d))
    | (go_at_call 20; exact quiet_eq (rcalls_same (H.out.keep (Kp.drewN _ _ _)).r HS.out))
    | (go_at_call 29; exact Calls.quiet_of (read_any (H.out.keep (Kp.drewN _ _ _)).d _ _))
    | (go_at_call 31; exact Calls.quiet_of (rread_same (H.out.keep (Kp.drewN _ _ _)).r HS.out _ _))))
  go_wp2
  go_ret
  exact ⟨rfl, nq, rfl⟩

end Go.Proofs.Yteekoocbdapciaa
