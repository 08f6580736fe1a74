/- A pair of integers by value, opened. -/
import Derived.Test.YteekoocbdapciaaOpen2
namespace Go.Proofs.Yteekoocbdapciaa
open Go.ChangeShapes Go.WideShapes Go.ChangeAt Go.RowKit Go.Deep Go.Lib

theorem pair42 : Try.prog.underlying 42 = some (.array 2 3) := Try.underlying42
theorem cells42 : Try.prog.cellsOf 42 = 2 := by kernel_rfl
theorem cells3 : Try.prog.cellsOf 3 = 1 := by kernel_rfl

theorem open_pair {H : Type} {enc : TypeId × Value → H} {W : World} {base : Nat} {v : Value} {d : DataW H} {p : List MemPlace} (hval : Value.okWide Try.prog W .any base 42 v) (h : DataW.Trod enc Try.prog W 0 (fun _ => true) true 42 v d p) :
    ∃ m n, v = .agg #[.int .i64 m, .int .i64 n] ∧ (Lit.int .i64 m).wf = true ∧ (Lit.int .i64 n).wf = true := by
  have hv : ∃ c0 c1, v = .agg #[c0, c1] := by
    unfold Value.okWide at hval
    rw [pair42] at hval
    obtain ⟨cs, rfl, hs, _⟩ := hval
    rw [cells42] at hs
    refine ⟨cs[0], cs[1], ?_⟩
    congr 1
    apply Array.ext
    · simpa using hs
    · intro i hi1 hi2
      have : i = 0 ∨ i = 1 := by omega
      rcases this with rfl | rfl <;> simp
  obtain ⟨c0, c1, rfl⟩ := hv
  obtain ⟨fuel, hf⟩ := h
  have hf : DataW.trod enc Try.prog W 0 (fun _ => true) true fuel 42 [c0, c1] = some (d, p) := hf
  cases fuel with
  | zero => simp [DataW.trod] at hf
  | succ n =>
    unfold DataW.trod at hf
    rw [pair42] at hf
    have r2 : List.range 2 = [0, 1] := rfl
    simp [r2, cells3] at hf
    obtain ⟨_, hf⟩ := hf
    cases h0 : DataW.trod enc Try.prog W 0 (fun _ => true) true n 3 [c0] with
    | none => simp [h0] at hf
    | some y0 =>
      cases h1 : DataW.trod enc Try.prog W 0 (fun _ => true) true n 3 [c1] with
      | none => simp [h0, h1] at hf
      | some y1 =>
        obtain ⟨m, rfl, hm⟩ := cell_int h0
        obtain ⟨k, rfl, hk⟩ := cell_int h1
        exact ⟨m, k, rfl, hm, hk⟩

end Go.Proofs.Yteekoocbdapciaa
