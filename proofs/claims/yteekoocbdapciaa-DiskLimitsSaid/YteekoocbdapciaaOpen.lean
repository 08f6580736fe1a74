/- The arguments of the laws, opened to cells. -/
import Derived.Test.YteekoocbdapciaaPlays
import Derived.ProofKit
import Derived.OpenShut
import Derived.ShutString
import Derived.ChangeOld
import Derived.Deep.Slices
import Derived.Deep.Fields
import Derived.ChangeSame
namespace Go.Proofs.Yteekoocbdapciaa
open Go.ChangeShapes Go.WideShapes Go.ChangeAt Go.RowKit Go.Deep Go.Lib

theorem ownT : ownKnob Try.prog.godebug = none := by kernel_rfl
theorem laidOutT : laidOutB Try.prog = true := by kernel_rfl

section
variable {H : Type} {enc : TypeId × Value → H} {P : Program} {w : World} {base : Nat} {spare : Nat → Bool} {held : Bool}
theorem open_slice_fields {t e : TypeId} {fs : Array Field} {fuel : Nat} {cs : List Value} {x : DataW H × List MemPlace} (ht : P.underlying t = some (.slice e)) (he : P.underlying e = some (.struct fs))
    (hone : oneCellFields P fs = true) (hC : P.cellsOf e = fs.size) (h : DataW.trod enc P w base spare held fuel t cs = some x) :
    (cs = [.slice none 0 0] ∧ x = (.nil, [])) ∨
    ∃ (a : Addr) (len cap m : Nat) (D : Nat → DataW H) (Pl : Nat → List MemPlace), cs = [.slice (some a) len cap] ∧ base ≤ a.block ∧ len ≤ cap ∧ cap ≤ maxLen ∧ m = (if spare a.block then cap else len) ∧
      x = (.slice ((List.range len).map D) ((List.range (m - len)).map fun j => D (len + j)), MemPlace.row a (m * fs.size) ++ (List.range m).flatMap Pl) ∧
      ∀ i, i < m → ∃ (ys : List (DataW H × List MemPlace)) (n : Nat), D i = .agg (ys.map (·.1)) ∧ Pl i = ys.flatMap (·.2) ∧ ys.length = fs.size ∧
        ∀ (j : Nat) (f : Field), fs[j]? = some f → ∃ (v : Value) (y : DataW H × List MemPlace), w.cell? (a.add (i * fs.size + j)) = some v ∧ ys[j]? = some y ∧ DataW.trod enc P w base spare held n f.type [v] = some y := by
  rcases open_slice ht h with h0 | ⟨a, len, cap, m, n, D, Pl, hcs, hb, hl, hm, hmm, hx, hi⟩
  · exact .inl h0
  · refine .inr ⟨a, len, cap, m, D, Pl, hcs, hb, hl, hm, hmm, by rw [hC] at hx; exact hx, fun i him => ?_⟩
    obtain ⟨cs', hc, ht'⟩ := hi i him
    rw [hC] at hc
    obtain ⟨ys, n', hn', hy, hlen, hyl, hf⟩ := DataW.trod_struct he ht'
    obtain ⟨_, hcl, hat⟩ := World.cells?_some hc
    simp only [Prod.mk.injEq] at hy
    refine ⟨ys, n', hy.1, hy.2, hyl, fun j f hj => ?_⟩
    obtain ⟨ho, hk⟩ := hone_of hone j f hj
    have hjl : j < fs.size := (Array.getElem?_eq_some_iff.1 hj).1
    have hcell := hat j hjl
    have hv : cs'[j]? = some (cs'[j]'(by omega)) := List.getElem?_eq_getElem (by omega)
    have h1 := hf j f hj
    rw [ho, hk] at h1
    have hone' : (cs'.drop j).take 1 = [cs'[j]'(by omega)] := by
      rw [List.drop_eq_getElem_cons (by omega)]
      rfl
    rw [hone'] at h1
    have hys : ys[j]? = some (ys[j]'(by omega)) := List.getElem?_eq_getElem (by omega)
    refine ⟨_, _, ?_, hys, h1.trans hys⟩
    rw [← Go.Deep.add_add, hcell, hv]
end

theorem one33 : ∃ fs, Try.prog.underlying 33 = some (.struct fs) ∧ oneCellFields Try.prog fs = true ∧ Try.prog.cellsOf 33 = fs.size ∧ (fs.toList.map (·.type)) = [3, 3, 3, 9] := ⟨_, Try.underlying33, by kernel_rfl, by kernel_rfl, by kernel_rfl⟩

theorem cell_int {H : Type} {enc : TypeId × Value → H} {w : World} {base n : Nat} {spare : Nat → Bool} {held : Bool} {v : Value} {y : DataW H × List MemPlace} (h : DataW.trod enc Try.prog w base spare held n 3 [v] = some y) : ∃ k, v = .int .i64 k ∧ (Lit.int .i64 k).wf = true := by
  obtain ⟨k, e, _, hw⟩ := DataW.trod_int Try.underlying3 h
  exact ⟨k, by simpa using e, hw⟩
theorem cell_str {H : Type} {enc : TypeId × Value → H} {w : World} {base n : Nat} {spare : Nat → Bool} {held : Bool} {v : Value} {y : DataW H × List MemPlace} (h : DataW.trod enc Try.prog w base spare held n 9 [v] = some y) : ∃ s : ByteArray, v = .string s ∧ s.size ≤ 9223372036854775807 := by
  obtain ⟨k, e, _, hw⟩ := DataW.trod_string Try.underlying9 h
  exact ⟨k, by simpa using e, by simpa [maxLen] using hw⟩

theorem open_acts {H : Type} {enc : TypeId × Value → H} {W : World} {base : Nat} {v : Value} {d : DataW H} {p : List MemPlace} (hval : Value.okWide Try.prog W .any base 22 v) (h : DataW.Trod enc Try.prog W 0 (fun _ => true) true 22 v d p) :
    ∃ L, Acts W v L := by
  obtain ⟨a0, len0, cap0, rfl⟩ := okWide_slice Try.underlying22 hval
  obtain ⟨fuel, hf⟩ := h
  obtain ⟨fs, hfs, hone, hC, hty⟩ := one33
  have hsz : fs.size = 4 := by
    have := congrArg List.length hty
    simpa using this
  rcases open_slice_fields Try.underlying22 hfs hone hC hf with ⟨hcs, _⟩ | ⟨a, len, cap, m, D, Pl, hcs, _, hl, hm, hmm, _, hi⟩
  · simp [Value.cells] at hcs
    obtain ⟨rfl, rfl, rfl⟩ := hcs
    exact ⟨[], by simp, by simp, none, 0, rfl, (fun h => by simp at h)⟩
  · simp [Value.cells] at hcs
    obtain ⟨rfl, rfl, rfl⟩ := hcs
    simp only [if_true] at hmm
    subst hmm
    have key : ∀ i, i < len0 → ∃ x : Int × Int × Int × ByteArray, W.cell? (a.add (i * 4)) = some (.int .i64 x.1) ∧ W.cell? (a.add (i * 4 + 1)) = some (.int .i64 x.2.1) ∧ W.cell? (a.add (i * 4 + 2)) = some (.int .i64 x.2.2.1) ∧ W.cell? (a.add (i * 4 + 3)) = some (.string x.2.2.2) ∧ x.2.2.2.size ≤ 9223372036854775807 := by
      intro i hil
      obtain ⟨ys, n, _, _, _, hf⟩ := hi i (by omega)
      rw [hsz] at hf
      have ty : ∀ (j : Nat) (t : TypeId), [3, 3, 3, 9][j]? = some t → ∃ f : Field, fs[j]? = some f ∧ f.type = t := by
        intro j t hj
        rw [← hty, List.getElem?_map] at hj
        obtain ⟨f, hf1, hf2⟩ := Option.map_eq_some_iff.1 hj
        exact ⟨f, by simpa using hf1, hf2⟩
      obtain ⟨f0, e0, t0⟩ := ty 0 3 rfl
      obtain ⟨f1, e1, t1⟩ := ty 1 3 rfl
      obtain ⟨f2, e2, t2⟩ := ty 2 3 rfl
      obtain ⟨f3, e3, t3⟩ := ty 3 9 rfl
      obtain ⟨u0, y0, g0, _, r0⟩ := hf 0 f0 e0
      obtain ⟨u1, y1, g1, _, r1⟩ := hf 1 f1 e1
      obtain ⟨u2, y2, g2, _, r2⟩ := hf 2 f2 e2
      obtain ⟨u3, y3, g3, _, r3⟩ := hf 3 f3 e3
      rw [t0] at r0
      rw [t1] at r1
      rw [t2] at r2
      rw [t3] at r3
      obtain ⟨k0, rfl, _⟩ := cell_int r0
      obtain ⟨k1, rfl, _⟩ := cell_int r1
      obtain ⟨k2, rfl, _⟩ := cell_int r2
      obtain ⟨k3, rfl, hk⟩ := cell_str r3
      exact ⟨(k0, k1, k2, k3), g0, g1, g2, g3, hk⟩
    obtain ⟨f, hf2⟩ := choose_lt key
    refine ⟨(List.range len0).map f, by simp [maxLen] at hm ⊢; omega, ?_, some a, _, by rw [List.length_map, List.length_range], fun h0 => ?_⟩
    · intro x hx
      obtain ⟨i, hi1, rfl⟩ := List.mem_map.1 hx
      exact (hf2 i (List.mem_range.1 hi1)).2.2.2.2
    · obtain ⟨b, off, spot⟩ := a
      have h00 : 0 < len0 := by simpa using h0
      have hc := (hf2 0 h00).1
      have hspot : spot = none := by simpa [Addr.add] using World.cell?_spot hc
      subst hspot
      have e : ∀ j, (⟨b, off, none⟩ : Addr).add j = ⟨b, off + j, none⟩ := fun j => by unfold Addr.add; split <;> simp_all
      refine ⟨b, off, rfl, fun j hj => ?_⟩
      have hj2 : j < len0 := by simpa using hj
      have := hf2 j hj2
      simp only [e] at this
      simp only [List.getElem_map, List.getElem_range, Nat.add_assoc]
      exact ⟨this.1, this.2.1, this.2.2.1, this.2.2.2.1⟩

end Go.Proofs.Yteekoocbdapciaa
