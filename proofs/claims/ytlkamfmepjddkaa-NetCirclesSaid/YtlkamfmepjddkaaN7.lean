/- New of the model: laws for its first region. -/
import Derived.Test.YtlkamfmepjddkaaWe
set_option linter.unusedSimpArgs false
set_option linter.unusedVariables false
namespace Go.Proofs.Ytlkamfmepjddkaa
open Go.RowKit Go.Lib Go.Maps

theorem own0e (w : World) (B : Nat) (e : TypeId) (sz : Nat) (hB : B ≤ w.heap.size) : (w.alloc (.cells #[] e)).ownsRow B e sz (.slice (some ⟨w.heap.size, 0, none⟩) 0 0) 0 [] :=
  ⟨by simp, .inr ⟨w.heap.size, 0, #[], rfl, hB, heap_alloc_new w _, Nat.le_refl _, by unfold maxLen; omega, by simp, by simp⟩⟩

theorem opwp_build37 {w : World} {o : Oper} {a : Act} {K : Act → World → Prop} {Q : Exit → Act → World → Prop} (ho : o.op = .buildSlice 37 0 #[])
    (h : ∀ g w', w'.ownsRow w.heap.size 54 33 (.slice (some ⟨g, 0, none⟩) 0 0) 0 [] → g = w.heap.size → w'.heap.size = g + 1 → Kp (fun _ => False) w w' → K (a.put o.dst (.slice (some ⟨g, 0, none⟩) 0 0)) w') : o.wp Try.prog a w K Q := by
  unfold Oper.wp execOp
  simp only [ho]
  go_simp
  exact h _ _ (own0e w _ 54 33 (Nat.le_refl _)) rfl (by simp) (Kp.alloc _ _ _)

theorem opwp_build40 {w : World} {o : Oper} {a : Act} {K : Act → World → Prop} {Q : Exit → Act → World → Prop} (ho : o.op = .buildSlice 40 0 #[])
    (h : ∀ g w', w'.ownsRow w.heap.size 42 3 (.slice (some ⟨g, 0, none⟩) 0 0) 0 [] → g = w.heap.size → w'.heap.size = g + 1 → Kp (fun _ => False) w w' → K (a.put o.dst (.slice (some ⟨g, 0, none⟩) 0 0)) w') : o.wp Try.prog a w K Q := by
  unfold Oper.wp execOp
  simp only [ho]
  go_simp
  exact h _ _ (own0e w _ 42 3 (Nat.le_refl _)) rfl (by simp) (Kp.alloc _ _ _)

theorem info42f : (Try.prog.info? 42).map (fun i => (i.zero, i.size, i.bytes)) = some (some (.agg #[.int .i64 0, .int .i64 0, .int .i64 0]), 3, 24) := by kernel_rfl
theorem info40f : (Try.prog.info? 40).map (fun i => (i.zero, i.size, i.bytes)) = some (some (.slice none 0 0), 1, 24) := by kernel_rfl
theorem bhs_one (l : List Bh) : ∀ v ∈ bhs l, v.oneCell' = true := by
  intro v hv
  simp only [bhs, List.mem_flatMap, bhCells] at hv
  obtain ⟨r, _, hv⟩ := hv
  simp at hv
  rcases hv with rfl | rfl | rfl <;> rfl

theorem info3 : (Try.prog.info? 3).map (fun i => (i.zero, i.size, i.bytes)) = some (some (.int .i64 0), 1, 8) := by kernel_rfl
theorem made_zero (n : Nat) : (madeCells (Value.int .i64 0).cells (n * 1)).toList = List.replicate n (.int .i64 0) := by
  apply List.ext_getElem?
  intro j
  simp [madeCells, Value.cells, List.getElem?_replicate, List.getElem?_map]
  by_cases h : j < n <;> simp [h, Nat.mod_one]

theorem opwp_make60 {w : World} {o : Oper} {a : Act} {K : Act → World → Prop} {Q : Exit → Act → World → Prop} (x : Operand) (ho : o.op = .makeSlice 60 x x) (n : Nat) (hx : a.eval x = .int .i64 (n : Int)) (hn : n ≤ 1000)
    (h : ∀ v' w', w'.ownsRow w.heap.size 3 1 v' n (List.replicate n (.int .i64 0)) → Kp (fun _ => False) w w' → K (a.put o.dst v') w') : o.wp Try.prog a w K Q := by
  obtain ⟨i0, hi, hz0, hz1, hz2⟩ := info_parts info3
  obtain ⟨w', hr, h1, h2⟩ := run_makeSlice_full (P := Try.prog) (w := w) w.heap.size 60 3 i0 (.int .i64 0) 1 Try.underlying60 hi hz0 hz1 .i64 .i64 n (by omega) (by rw [hz2]; omega) (by unfold maxLen; omega) (Nat.le_refl _)
  rw [made_zero] at h1
  unfold Oper.wp execOp
  simp only [ho, hx, Sem.run_bind, Sem.run_pure, Result.andThen_ok, hr]
  exact h _ _ h1 (Kp.grown h2 fun k e => by cases e)

theorem info54 : (Try.prog.info? 54).map (fun i => (i.zero, i.size, i.bytes)) = some (some (.agg (List.replicate 32 (Value.int .u8 0) ++ [Value.string emptyS]).toArray), 33, 48) := by kernel_rfl

theorem pks_one (l : List Pk) : ∀ v ∈ pks l, v.oneCell' = true := by
  intro v hv
  simp only [pks, List.mem_flatMap, pkCells, byteCells] at hv
  obtain ⟨r, _, hv⟩ := hv
  simp at hv
  rcases hv with ⟨_, _, rfl⟩ | rfl <;> rfl

end Go.Proofs.Ytlkamfmepjddkaa
