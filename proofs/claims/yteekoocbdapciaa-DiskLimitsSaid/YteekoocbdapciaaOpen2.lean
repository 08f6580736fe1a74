/- More arguments, opened. -/
import Derived.Test.YteekoocbdapciaaOpen
import Derived.ChangeMaps5
import Derived.ChangeSlices
namespace Go.Proofs.Yteekoocbdapciaa
open Go.ChangeShapes Go.WideShapes Go.ChangeAt Go.RowKit Go.Deep Go.Lib

theorem open_q {H : Type} {enc : TypeId × Value → H} {W : World} {base : Nat} {v : Value} {d : DataW H} {p : List MemPlace} (hval : Value.okWide Try.prog W .any base 36 v) (h : DataW.Trod enc Try.prog W 0 (fun _ => true) true 36 v d p) :
    ∃ q, Ints W v q ∧ q.length ≤ 9223372036854775807 ∧ ∀ n ∈ q, (Lit.int .i64 n).wf = true := by
  obtain ⟨a0, len0, cap0, rfl⟩ := okWide_slice Try.underlying36 hval
  obtain ⟨fuel, hf⟩ := h
  rcases open_ints Try.underlying36 Try.underlying3 (by kernel_rfl) hf with ⟨hcs, _⟩ | ⟨a, len, cap, zs, hcs, _, hl, hm, hz, _, hc, hwf⟩
  · simp [Value.cells] at hcs
    obtain ⟨rfl, rfl, rfl⟩ := hcs
    exact ⟨[], Ints.nil W, by simp, by simp⟩
  · simp [Value.cells] at hcs
    obtain ⟨rfl, rfl, rfl⟩ := hcs
    simp only [if_true] at hz
    have hlen : (zs.take len0).length = len0 := by rw [List.length_take]; omega
    refine ⟨zs.take len0, ⟨some a, cap0, by rw [hlen], fun h0 => ?_⟩, by rw [hlen]; simp [maxLen] at hm; omega, fun n hn => hwf n (List.mem_of_mem_take hn)⟩
    rw [hlen] at h0
    obtain ⟨b, off, rfl, hat⟩ := Go.ints_at hc (by omega)
    refine ⟨b, off, rfl, fun j hj => ?_⟩
    rw [hlen] at hj
    rw [hat j (by omega)]
    have : (zs.take len0).getD j 0 = zs.getD j 0 := by
      simp only [List.getD_eq_getElem?_getD, List.getElem?_take, hj, if_true]
    rw [this]

theorem open_str {H : Type} {enc : TypeId × Value → H} {W : World} {base : Nat} {v : Value} {d : DataW H} {p : List MemPlace} (hval : Value.okWide Try.prog W .any base 9 v) (h : DataW.Trod enc Try.prog W 0 (fun _ => true) true 9 v d p) :
    ∃ s : ByteArray, v = .string s ∧ s.size ≤ 9223372036854775807 := by
  obtain ⟨s, e, _, _, hs⟩ := Go.ChangeMaps.open_string Try.underlying9 hval h
  exact ⟨s, e, by simpa [maxLen] using hs⟩

theorem open_i64 {H : Type} {enc : TypeId × Value → H} {W : World} {base : Nat} {v : Value} {d : DataW H} {p : List MemPlace} (hval : Value.okWide Try.prog W .any base 3 v) (h : DataW.Trod enc Try.prog W 0 (fun _ => true) true 3 v d p) :
    ∃ n, v = .int .i64 n ∧ (Lit.int .i64 n).wf = true := by
  obtain ⟨n, e, _, _, hs⟩ := open_int Try.underlying3 hval h
  exact ⟨n, e, hs⟩
theorem open_u8 {H : Type} {enc : TypeId × Value → H} {W : World} {base : Nat} {v : Value} {d : DataW H} {p : List MemPlace} (hval : Value.okWide Try.prog W .any base 5 v) (h : DataW.Trod enc Try.prog W 0 (fun _ => true) true 5 v d p) :
    ∃ n, v = .int .u8 n ∧ (Lit.int .u8 n).wf = true := by
  obtain ⟨n, e, _, _, hs⟩ := open_int Try.underlying5 hval h
  exact ⟨n, e, hs⟩
theorem open_u32 {H : Type} {enc : TypeId × Value → H} {W : World} {base : Nat} {v : Value} {d : DataW H} {p : List MemPlace} (hval : Value.okWide Try.prog W .any base 50 v) (h : DataW.Trod enc Try.prog W 0 (fun _ => true) true 50 v d p) :
    ∃ n, v = .int .u32 n ∧ (Lit.int .u32 n).wf = true := by
  obtain ⟨n, e, _, _, hs⟩ := open_int Try.underlying50 hval h
  exact ⟨n, e, hs⟩

end Go.Proofs.Yteekoocbdapciaa
