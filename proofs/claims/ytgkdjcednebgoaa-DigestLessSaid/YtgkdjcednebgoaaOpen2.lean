/- A hash by value, opened. -/
import Derived.Test.YtgkdjcednebgoaaOpen
namespace Go.Proofs.Ytgkdjcednebgoaa
open Go.ChangeShapes Go.WideShapes Go.ChangeAt Go.RowKit Go.Deep Go.Lib

theorem cells24 : Try.prog.cellsOf 24 = 32 := by kernel_rfl
theorem cells5 : Try.prog.cellsOf 5 = 1 := by kernel_rfl
theorem cell_u8 {H : Type} {enc : TypeId × Value → H} {w : World} {base n : Nat} {spare : Nat → Bool} {held : Bool} {v : Value} {y : DataW H × List MemPlace} (h : DataW.trod enc Try.prog w base spare held n 5 [v] = some y) : ∃ k : UInt8, v = .int .u8 (k.toNat : Int) := by
  obtain ⟨k, e, _, hw⟩ := DataW.trod_int Try.underlying5 h
  have hk : 0 ≤ k ∧ k ≤ 255 := by simpa [Lit.wf, IntKind.min, IntKind.max, IntKind.signed, IntKind.bits] using hw
  refine ⟨UInt8.ofNat k.toNat, ?_⟩
  have e1 : ((UInt8.ofNat k.toNat).toNat : Int) = k := by simp; omega
  rw [e1]
  simpa using e

theorem open_hash {H : Type} {enc : TypeId × Value → H} {W : World} {base : Nat} {v : Value} {d : DataW H} {p : List MemPlace} (hval : Value.okWide Try.prog W .any base 24 v) (h : DataW.Trod enc Try.prog W 0 (fun _ => true) true 24 v d p) :
    ∃ a : List UInt8, v = .agg (byteCells a).toArray ∧ a.length = 32 := by
  have hv : ∃ cs : Array Value, v = .agg cs ∧ cs.size = 32 := by
    unfold Value.okWide at hval
    rw [Try.underlying24] at hval
    obtain ⟨cs, rfl, hs, _⟩ := hval
    rw [cells24] at hs
    exact ⟨cs, rfl, hs⟩
  obtain ⟨cs, rfl, hs⟩ := hv
  obtain ⟨fuel, hf⟩ := h
  obtain ⟨xs, m, _, _, hl, hx, hi⟩ := DataW.trod_array Try.underlying24 hf
  rw [cells5] at hi
  have hl2 : (Value.agg cs).cells.toList.length = 32 := by rw [hl]; exact cells24
  have hcs : (Value.agg cs).cells.toList = cs.toList := rfl
  rw [hcs] at hi hl2
  have key : ∀ i, i < 32 → ∃ k : UInt8, cs.toList[i]? = some (.int .u8 (k.toNat : Int)) := by
    intro i h32
    have h1 := hi i h32
    rw [Nat.mul_one] at h1
    have hlt : i < cs.toList.length := by omega
    have e1 : (cs.toList.drop i).take 1 = [cs.toList[i]] := by
      rw [List.drop_eq_getElem_cons hlt]
      rfl
    rw [e1, List.getElem?_eq_getElem (by omega)] at h1
    obtain ⟨k, hk⟩ := cell_u8 h1
    exact ⟨k, by rw [List.getElem?_eq_getElem hlt, hk]⟩
  have key2 : ∀ n, n ≤ 32 → ∃ a : List UInt8, cs.toList.take n = byteCells a ∧ a.length = n := by
    intro n
    induction n with
    | zero => intro _; exact ⟨[], rfl, rfl⟩
    | succ n ih =>
      intro hn
      obtain ⟨a, ha, hla⟩ := ih (by omega)
      obtain ⟨k, hk⟩ := key n (by omega)
      obtain ⟨hlt, hk⟩ := List.getElem?_eq_some_iff.1 hk
      refine ⟨a ++ [k], ?_, by simp [hla]⟩
      rw [List.take_succ_eq_append_getElem hlt, ha, hk, byteCells_append]
      rfl
  obtain ⟨a, ha, hla⟩ := key2 32 (Nat.le_refl _)
  rw [List.take_of_length_le (by omega)] at ha
  exact ⟨a, by rw [← ha], hla⟩

end Go.Proofs.Ytgkdjcednebgoaa
