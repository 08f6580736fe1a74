/- Walks: a packet in a circle; a text of which one byte is changed. -/
import Derived.Test.YtlkamfmepjddkaaW1
set_option linter.unusedSimpArgs false
set_option linter.unusedVariables false
namespace Go.Proofs.Ytlkamfmepjddkaa
open Go.RowKit Go.Lib Go.Maps

theorem circleS_at {l : List Pk} {n : Int} {i : Nat} {p : Pk} (hi : n % (l.length : Int) = (i : Int)) (hp : l[i]? = some p) : circleS l n = p.b := by
  unfold circleS
  rw [hi]
  simp [hp]

theorem pk_text {w : World} {g o i : Nat} {l : List Pk} {p : Pk} (hr : w.rangeAt g o (pks l)) (hl : ∀ x ∈ l, x.h.length = 32) (hp : l[i]? = some p) : w.cell? ⟨g, o + i * 33 + 32, none⟩ = some (.string p.b) := by
  have := rangeAt_flat pkCells 33 l hr i p (fun x hx => pkCells_len x (hl x hx)) hp
  exact this 32 _ (by rw [pkCells, List.getElem?_append_right (by rw [byteCells_length, hl p (List.mem_of_getElem? hp)]; exact Nat.le_refl _), byteCells_length, hl p (List.mem_of_getElem? hp)]; rfl)

set_option maxHeartbeats 1000000 in
theorem pick_any (sp : Option Addr) (c : Nat) (l : List Pk) (k : Int) (w : World) (hs : Src w 33 sp l.length (pks l)) (hl : ∀ p ∈ l, p.h.length = 32 ∧ p.b.size ≤ 100) (hn : l.length ≤ 1000) :
    Calls Try.prog 51 #[.slice sp l.length c, .int .i64 k] w (SPost w [circleS l k]) := by
  obtain ⟨n, hnn⟩ : ∃ n, n = l.length := ⟨_, rfl⟩
  rw [← hnn] at hs hn ⊢
  by_cases h0 : n = 0
  · subst h0
    have hl0 : l = [] := List.eq_nil_of_length_eq_zero hnn.symm
    subst hl0
    have E := Lib.hid (show turnI k 0 = -1 from rfl)
    clear hnn hs hl hn
    go_enter Try.func51, Try.ntmps51
    go_wp2_with fail
    refine (turn_any k 0 w (by omega)).mono ?_
    rintro e w' ⟨rfl, rfl⟩
    rw [E.out]
    go_wp2_with fail
    go_ret
    exact ⟨_, rfl, strs1 w _, Kp.alloc _ _ _⟩
  · obtain ⟨g, o, rfl, hr⟩ := hs.2 (by omega)
    obtain ⟨i, hi⟩ : ∃ i : Nat, k % (n : Int) = (i : Int) := ⟨(k % (n : Int)).toNat, by have := Int.emod_nonneg k (show (n : Int) ≠ 0 by omega); omega⟩
    have hin : i < n := by have := Int.emod_lt_of_pos k (show (0 : Int) < (n : Int) by omega); omega
    have hp : l[i]? = some (l[i]'(by omega)) := List.getElem?_eq_getElem (by omega)
    obtain ⟨p, hpp⟩ : ∃ p, p = l[i]'(by omega) := ⟨_, rfl⟩
    rw [← hpp] at hp
    have hc := pk_text hr (fun x hx => (hl x hx).1) hp
    have E := Lib.hid (show turnI k n = (i : Int) by simp [turnI, h0, hi])
    have HC : Hid (circleS l k = p.b) := Lib.hid (circleS_at (by rw [← hnn]; exact hi) hp)
    have hi0 : (0 : Int) ≤ (i : Int) := by omega
    have hi1 : (i : Int) < (n : Int) := by omega
    have hi2 : ¬ (i : Int) < 0 := by omega
    have HN := Lib.hid hnn
    clear hs hr hi hp hpp hnn hl
    go_enter Try.func51, Try.ntmps51
    go_wp2_with fail
    refine (turn_any k n w (by omega)).mono ?_
    rintro e w' ⟨rfl, rfl⟩
    rw [E.out]
    go_wp2_with fail
    go_ret
    exact ⟨_, rfl, by rw [HC.out]; exact strs1 w _, Kp.alloc _ _ _⟩

end Go.Proofs.Ytlkamfmepjddkaa
