/- Walks: the constants. -/
import Derived.Test.YtgkdjcednebgoaaX1
namespace Go.Proofs.Ytgkdjcednebgoaa
open Go.RowKit Go.Lib

theorem info58 : (Try.prog.info? 58).map (·.size) = some 64 := by kernel_rfl
theorem info40 : (Try.prog.info? 40).map (·.size) = some 8 := by kernel_rfl
theorem info24 : (Try.prog.info? 24).map (·.size) = some 32 := by kernel_rfl

theorem wpList_build_at {P : Program} {w : World} {ops : Array Oper} {rest : List Oper} {o : Oper} {a : Act} {Q : Exit → Act → World → Prop} (hg : o.guard = none) (t : TypeId) (parts : Array (Nat × Operand)) (ho : o.op = .build t parts)
    (cells : Array Value) (hf : P.built t (parts.map fun (i, x) => (i, a.eval x)).toList = some cells)
    (h : wpList P ops Q rest (a.put o.dst (.agg cells)) w) : wpList P ops Q (o :: rest) a w := by
  refine wpList_build hg t parts ho (by rw [hf]; rfl) ?_
  rw [hf]
  exact h

theorem oneU32 (l : List Nat) : (u32Cells l).toArray.all (·.oneCell') = true := by
  rw [Array.all_eq_true]
  intro i h
  exact u32Cells_one l _ (by simp)

theorem kp_setRow {F : Nat → Prop} (w : World) (g : Nat) (cs : Array Value) (h : F g) : Kp F w (w.setRow g cs) :=
  ⟨rfl, rfl, rfl, by simp, fun k _ hf => setRow_other w g k cs (fun e => hf (e ▸ h))⟩

set_option maxRecDepth 100000 in
theorem start_any (w : World) : Calls Try.prog 20 #[] w fun e w' => e = .returned (.agg (u32Cells startL).toArray) ∧ Kp (fun _ => False) w w' := by
  go_enter Try.func20, Try.ntmps20
  go_wp2_with (first
    | (refine wpList_build_at rfl 40 _ rfl (u32Cells startL).toArray (by kernel_rfl) ?_)
    | (refine wpList_store_row rfl 40 (.tmp 0) (.tmp 1) rfl w.heap.size (u32Cells startL).toArray rfl rfl 40 _ (heap_alloc_new w _) info40 rfl (oneU32 _) ?_))
  refine bodyPost_ret (v := .agg (u32Cells startL).toArray) (results_cell_row rfl _ _ w.heap.size 40 _ (0, 0) _ rfl (setRow_heap _ _ _ _ _ _ (heap_alloc_new w _)) Try.underlying40 rfl info40) rfl ⟨rfl, ?_⟩
  exact (Kp.alloc _ w _).trans (kp_setRow (F := fun k => k = w.heap.size) _ _ _ rfl) fun k hk => .inr (by omega)

set_option maxRecDepth 100000 in
set_option maxHeartbeats 1000000 in
theorem rounds_any (w : World) : Calls Try.prog 30 #[] w fun e w' => e = .returned (.agg (u32Cells kL).toArray) ∧ Kp (fun _ => False) w w' := by
  go_enter Try.func30, Try.ntmps30
  go_wp2_with (first
    | (refine wpList_build_at rfl 58 _ rfl (u32Cells kL).toArray (by kernel_rfl) ?_)
    | (refine wpList_store_row rfl 58 (.tmp 0) (.tmp 1) rfl w.heap.size (u32Cells kL).toArray rfl rfl 58 _ (heap_alloc_new w _) info58 rfl (oneU32 _) ?_))
  refine bodyPost_ret (v := .agg (u32Cells kL).toArray) (results_cell_row rfl _ _ w.heap.size 58 _ (0, 0) _ rfl (setRow_heap _ _ _ _ _ _ (heap_alloc_new w _)) Try.underlying58 rfl info58) rfl ⟨rfl, ?_⟩
  exact (Kp.alloc _ w _).trans (kp_setRow (F := fun k => k = w.heap.size) _ _ _ rfl) fun k hk => .inr (by omega)

set_option maxRecDepth 100000 in
set_option maxHeartbeats 1000000 in
theorem rrounds_any (w : World) : Calls Try.prog 32 #[] w fun e w' => e = .returned (.agg (u32Cells kL).toArray) ∧ Kp (fun _ => False) w w' := by
  go_enter Try.func32, Try.ntmps32
  go_wp2_with (first
    | (refine wpList_build_at rfl 58 _ rfl (u32Cells kL).toArray (by kernel_rfl) ?_)
    | (refine wpList_store_row rfl 58 (.tmp 0) (.tmp 1) rfl w.heap.size (u32Cells kL).toArray rfl rfl 58 _ (heap_alloc_new w _) info58 rfl (oneU32 _) ?_))
  refine bodyPost_ret (v := .agg (u32Cells kL).toArray) (results_cell_row rfl _ _ w.heap.size 58 _ (0, 0) _ rfl (setRow_heap _ _ _ _ _ _ (heap_alloc_new w _)) Try.underlying58 rfl info58) rfl ⟨rfl, ?_⟩
  exact (Kp.alloc _ w _).trans (kp_setRow (F := fun k => k = w.heap.size) _ _ _ rfl) fun k hk => .inr (by omega)

end Go.Proofs.Ytgkdjcednebgoaa
