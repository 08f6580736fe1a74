/- Walks: disk.Disk's Read. -/
import Derived.Test.YteekoocbdapciaaW3
namespace Go.Proofs.Yteekoocbdapciaa
open Go.RowKit Go.Lib

/-- What Read returns of contents. -/
def readL (c : List UInt8) (off n : Int) : ByteArray := if off < 0 ∨ n < 1 ∨ (c.length : Int) ≤ off then ByteArray.empty else ⟨((c.drop off.toNat).take n.toNat).toArray⟩

/-- A slice of a slice up to a bound. -/
theorem slice_to {P : Program} (T e : TypeId) (hT : P.underlying T = some (.slice e)) (he : P.elem T = e) (hsz : ∀ w, (sizeOf e).run P w = .ok 1 w) (dp : Option Addr) (a : Addr) (n cap m : Nat) (hdp : 0 < cap → dp = some a) (h2 : m ≤ cap) :
    ∃ dq, (0 < cap → dq = some a) ∧ ∀ u : World, (Instr.slice T (.slice dp n cap) none (some (.int .i64 m)) none).run P u = .ok (.slice dq m cap) u := by
  refine ⟨if cap = 0 then dp else dp.map (·.add (0 * 1)), fun h => ?_, fun u => ?_⟩
  · rw [if_neg (by omega), hdp h]
    simp [Addr.add]
  · subst he
    rw [run_slice_h u T dp n cap hT .i64 m (by omega) (by omega), hsz]
    simp [Result.andThen, sliced]

theorem strOfNums_bytes (l : List UInt8) : strOfNums (l.map fun b => (b.toNat : Int)) = ⟨l.toArray⟩ := by
  have h : (strOfNums (l.map fun b => (b.toNat : Int))).data.toList = l := by
    rw [strOfNums_data, List.map_map]
    conv => rhs; rw [← List.map_id l]
    apply List.map_congr_left
    intro b _
    simp
  cases hs : strOfNums (l.map fun b => (b.toNat : Int)) with
  | mk d => rw [hs] at h; simp only at h; subst h; simp

set_option maxHeartbeats 400000 in
theorem read_nil (w : World) (off n : Int) : Calls Try.prog 29 #[.pointer none, .int .i64 off, .int .i64 n] w fun e w' => e = .returned (.string ByteArray.empty) ∧ w = w' := by
  go_enter Try.func29, Try.ntmps29
  go_wp2
  go_ret
  exact ⟨rfl, rfl⟩

set_option maxHeartbeats 400000 in
theorem read_neg (w : World) (b : Nat) (off n : Int) (h : off < 0) : Calls Try.prog 29 #[.pointer (some ⟨b, 0, none⟩), .int .i64 off, .int .i64 n] w fun e w' => e = .returned (.string ByteArray.empty) ∧ w = w' := by
  go_enter Try.func29, Try.ntmps29
  go_wp2
  go_ret
  exact ⟨rfl, rfl⟩

set_option maxHeartbeats 400000 in
theorem read_few (w : World) (b : Nat) (off n : Int) (h0 : 0 ≤ off) (h : n < 1) : Calls Try.prog 29 #[.pointer (some ⟨b, 0, none⟩), .int .i64 off, .int .i64 n] w fun e w' => e = .returned (.string ByteArray.empty) ∧ w = w' := by
  go_enter Try.func29, Try.ntmps29
  go_wp2
  go_ret
  exact ⟨rfl, rfl⟩

set_option maxHeartbeats 400000 in
theorem read_far (w : World) (b : Nat) (off n : Int) (sp : Option Addr) (N cap : Nat) (h0 : 0 ≤ off) (h1 : 1 ≤ n) (hN : (N : Int) ≤ off) (hc : w.cell? ⟨b, 0, none⟩ = some (.slice sp N cap)) :
    Calls Try.prog 29 #[.pointer (some ⟨b, 0, none⟩), .int .i64 off, .int .i64 n] w fun e w' => e = .returned (.string ByteArray.empty) ∧ w = w' := by
  go_enter Try.func29, Try.ntmps29
  go_wp2
  go_ret
  exact ⟨rfl, rfl⟩

set_option maxHeartbeats 400000 in
theorem read_some (w : World) (b : Nat) (off : Nat) (n : Int) (g N cap m : Nat) (dp dq : Option Addr) (X : ByteArray) (h1 : 1 ≤ n) (hN : off < N) (hNm : N ≤ 16777216) (hm : (m : Int) = min n ((N : Int) - (off : Int))) (hc : w.cell? ⟨b, 0, none⟩ = some (.slice (some ⟨g, 0, none⟩) N cap))
    (hs1 : ∀ u : World, (Instr.slice 56 (.slice (some ⟨g, 0, none⟩) N cap) (some (.int .i64 off)) none none).run Try.prog u = .ok (.slice dp (N - off) (cap - off)) u)
    (hs2 : ∀ u : World, (Instr.slice 56 (.slice dp (N - off) (cap - off)) none (some (.int .i64 m)) none).run Try.prog u = .ok (.slice dq m (cap - off)) u)
    (hs3 : ∀ j, (convert 56 9 (.slice dq m (cap - off))).run Try.prog (w.drewN j) = .ok (.string X) (w.drewN j)) :
    Calls Try.prog 29 #[.pointer (some ⟨b, 0, none⟩), .int .i64 off, .int .i64 n] w fun e w' => e = .returned (.string X) ∧ ∃ j, w' = w.drewN j := by
  have hmin : (if (N : Int) - (off : Int) < n then (N : Int) - (off : Int) else n) = (m : Int) := by rw [hm]; split <;> omega
  have Hm := Lib.hid hm
  clear hm
  go_enter Try.func29, Try.ntmps29
  go_wp2
  go_quiet (fail)
  go_wp2
  go_ret
  exact ⟨rfl, nq, rfl⟩

theorem read_any {w : World} {B b : Nat} {vn vs vl : Value} {s : DS} (h : DiskP w B b vn vs vl s) (off n : Int) :
    Calls Try.prog 29 #[.pointer (some ⟨b, 0, none⟩), .int .i64 off, .int .i64 n] w fun e w' => e = .returned (.string (readL s.now off n)) ∧ ∃ j, w' = w.drewN j := by
  have z : ∀ {P : Ending → World → Prop}, (∀ e w', e = .returned (.string ByteArray.empty) ∧ w = w' → P e w') → ∀ {f args}, Calls Try.prog f args w (fun e w' => e = .returned (.string ByteArray.empty) ∧ w = w') → Calls Try.prog f args w P := fun hP _ _ hc => hc.mono hP
  by_cases h0 : off < 0
  · rw [readL, if_pos (.inl h0)]
    exact (read_neg w b off n h0).mono fun e w' ⟨he, hw⟩ => ⟨he, 0, by rw [← hw]; rfl⟩
  by_cases h1 : n < 1
  · rw [readL, if_pos (.inr (.inl h1))]
    exact (read_few w b off n (by omega) h1).mono fun e w' ⟨he, hw⟩ => ⟨he, 0, by rw [← hw]; rfl⟩
  by_cases h2 : (s.now.length : Int) ≤ off
  · rw [readL, if_pos (.inr (.inr h2))]
    obtain ⟨sp, cap, rfl, _⟩ := h.now.view
    exact (read_far w b off n sp _ cap (by omega) (by omega) h2 h.cells.1).mono fun e w' ⟨he, hw⟩ => ⟨he, 0, by rw [← hw]; rfl⟩
  obtain ⟨off, rfl⟩ := Int.eq_ofNat_of_zero_le (show 0 ≤ off by omega)
  rw [readL, if_neg (by omega)]
  have hl := h.nowlen
  rcases h.now.cases with ⟨_, hnil⟩ | ⟨g, cap, cur, rfl, hb, hg, hncap, hcm, hcs, hct⟩
  · rw [hnil] at h2
    simp at h2
  obtain ⟨m, hm⟩ : ∃ m : Nat, (m : Int) = min n ((s.now.length : Int) - (off : Int)) := ⟨(min n ((s.now.length : Int) - (off : Int))).toNat, by omega⟩
  obtain ⟨dp, hdp, hs1⟩ := slice_from (P := Try.prog) 56 5 Try.underlying56 (by kernel_rfl) (fun w => by kernel_rfl) g s.now.length cap off (by omega) hncap
  obtain ⟨dq, hdq, hs2⟩ := slice_to (P := Try.prog) 56 5 Try.underlying56 (by kernel_rfl) (fun w => by kernel_rfl) dp ⟨g, off, none⟩ (s.now.length - off) (cap - off) m (fun _ => hdp (by omega)) (by omega)
  obtain rfl := hdq (by omega)
  have hX : (s.now.drop off).take m = (s.now.drop off).take n.toNat := by
    rcases Int.le_total n ((s.now.length : Int) - (off : Int)) with h3 | h3
    · rw [show m = n.toNat by omega]
    · rw [List.take_of_length_le (by simp; omega), List.take_of_length_le (by simp; omega)]
  rw [show (Int.toNat (off : Int)) = off from rfl, ← hX]
  refine read_some w b off n g s.now.length cap m dp _ _ (by omega) (by omega) hl hm h.cells.1 hs1 hs2 fun j => ?_
  rw [← strOfNums_bytes]
  refine run_convert_bytes_arg (w.drewN j) 56 5 Try.underlying56 Try.underlying5 g off m (cap - off) _ ?_ ?_ 9 Try.underlying9
  · simp
    omega
  · intro i hi
    show w.cell? ⟨g, off + i, none⟩ = _
    have hc : w.cell? ⟨g, off + i, none⟩ = cur[off + i]? := cell_of_row w g _ _ _ _ hg
    have e1 : (byteCells s.now)[off + i]? = cur[off + i]? := by
      rw [← hct, List.getElem?_take, if_pos (by omega)]
      simp
    rw [hc, ← e1]
    have hi2 : off + i < s.now.length := by omega
    simp [byteCells, hi, hi2]

end Go.Proofs.Yteekoocbdapciaa
