/- More arguments opened: two lists of texts, a list of bytes. -/
import Derived.Test.YtlkamfmepjddkaaO1
set_option linter.unusedSimpArgs false
set_option linter.unusedVariables false
namespace Go.Proofs.Ytlkamfmepjddkaa
open Go.ChangeShapes Go.WideShapes Go.ChangeAt Go.RowKit Go.Deep Go.Lib

theorem okWide_arr57 {w : World} {r : Reach} {base : Nat} {v : Value} (h : Value.okWide Try.prog w r base 57 v) : ∃ cs, v = .agg cs := by
  unfold Value.okWide at h
  rw [Try.underlying57] at h
  obtain ⟨cs, h1, _⟩ := h
  exact ⟨cs, h1⟩
theorem cells57 : Try.prog.cellsOf 57 = 2 := by kernel_rfl
theorem cells22 : Try.prog.cellsOf 22 = 1 := by kernel_rfl

section
variable {H : Type} {enc : TypeId × Value → H} {w : World} {base : Nat} {spare : Nat → Bool} {held : Bool}
set_option maxRecDepth 100000 in
theorem open_two {n : Nat} {cs : Array Value} {y : DataW H × List MemPlace} (h : DataW.trod enc Try.prog w base spare held n 57 (Value.agg cs).cells.toList = some y) :
    ∃ (LP LO : List ByteArray) (sp1 sp2 : Option Addr) (c1 c2 : Nat), cs = #[.slice sp1 LP.length c1, .slice sp2 LO.length c2] ∧ Src w 1 sp1 LP.length (strV LP) ∧ Src w 1 sp2 LO.length (strV LO) ∧ (∀ s ∈ LP, s.size ≤ 9223372036854775807) ∧ ∀ s ∈ LO, s.size ≤ 9223372036854775807 := by
  obtain ⟨xs, m, _, _, hl, hx, hi⟩ := DataW.trod_array Try.underlying57 h
  rw [cells57] at hl
  have hcs : (Value.agg cs).cells = cs := rfl
  rw [hcs] at hl hi
  obtain ⟨l⟩ := cs
  match l, hl with
  | [a, b], _ =>
    have h0 := hi 0 (by decide)
    have h1 := hi 1 (by decide)
    rw [cells22] at h0 h1
    have x0 : xs[0]? = some (xs[0]'(by omega)) := List.getElem?_eq_getElem (by omega)
    have x1 : xs[1]? = some (xs[1]'(by omega)) := List.getElem?_eq_getElem (by omega)
    rw [x0] at h0
    rw [x1] at h1
    have e0 : ((#[a, b] : Array Value).toList.drop (0 * 1)).take 1 = [a] := rfl
    have e1 : ((#[a, b] : Array Value).toList.drop (1 * 1)).take 1 = [b] := rfl
    obtain ⟨LP, sp1, c1, rfl, s1, z1⟩ := open_strs (e0 ▸ h0)
    obtain ⟨LO, sp2, c2, rfl, s2, z2⟩ := open_strs (e1 ▸ h1)
    exact ⟨LP, LO, sp1, sp2, c1, c2, rfl, s1, s2, z1, z2⟩

theorem open_u8s {n : Nat} {v : Value} {y : DataW H × List MemPlace} (h : DataW.trod enc Try.prog w base spare held n 59 [v] = some y) :
    ∃ (L : List UInt8) (sp : Option Addr) (cap : Nat), v = .slice sp L.length cap ∧ Src w 1 sp L.length (byteCells L) := by
  rcases open_slice1 Try.underlying59 cells5u h with ⟨hcs, _⟩ | ⟨a, len, cap, m, n', V, D, Pl, hcs, _, hl, hm, hmm, _, hi⟩
  · simp at hcs
    subst hcs
    exact ⟨[], none, 0, rfl, Src.nil _ _ _⟩
  · simp at hcs
    subst hcs
    have hlm : len ≤ m := by rw [hmm]; split <;> omega
    have key : ∀ i, i < len → ∃ k : UInt8, w.cell? (a.add i) = some (.int .u8 (k.toNat : Int)) := by
      intro i hil
      obtain ⟨hc, ht'⟩ := hi i (by omega)
      obtain ⟨k, hk⟩ := cell_u8 ht'
      exact ⟨k, by rw [hc, hk]⟩
    obtain ⟨g, hg⟩ := choose_lt key
    refine ⟨(List.range len).map g, some a, cap, by simp, ?_⟩
    refine src_of (by decide) (by simp [byteCells]) fun k v hv => ?_
    simp only [byteCells, List.map_map, List.getElem?_map] at hv
    obtain ⟨i', h1, rfl⟩ := Option.map_eq_some_iff.1 hv
    have hil : k < len := by
      have := (List.getElem?_eq_some_iff.1 h1).1
      simpa using this
    have : i' = k := by
      rw [List.getElem?_range hil] at h1
      exact (Option.some.inj h1).symm
    subst this
    exact hg i' hil
end

end Go.Proofs.Ytlkamfmepjddkaa
