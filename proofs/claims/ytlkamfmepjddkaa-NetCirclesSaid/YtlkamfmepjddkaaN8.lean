/- Laws for packets as rows of 33 cells: their blocks are letters. -/
import Derived.Test.YtlkamfmepjddkaaN7
set_option linter.unusedSimpArgs false
set_option linter.unusedVariables false
namespace Go.Proofs.Ytlkamfmepjddkaa
open Go.RowKit Go.Lib Go.Maps

theorem opwp_alloc54 {w : World} {o : Oper} {a : Act} {K : Act → World → Prop} {Q : Exit → Act → World → Prop} (ho : o.op = .alloc 54)
    (h : ∀ g w' (z : Array Value), z.size = 33 → w'.heap[g]? = some (.cells z 54 (0, 0)) → g = w.heap.size → w'.heap.size = g + 1 → Kp (fun _ => False) w w' → K (a.put o.dst (.pointer (some ⟨g, 0, none⟩))) w') : o.wp Try.prog a w K Q := by
  unfold Oper.wp execOp
  simp only [ho]
  go_simp
  exact h _ _ _ rfl (heap_alloc_new w _) rfl (by simp) (Kp.alloc _ _ _)

theorem wpList_alloc54 {w : World} {ops : Array Oper} {rest : List Oper} {o : Oper} {a : Act} {Q : Exit → Act → World → Prop} (hgd : o.guard = none) (ho : o.op = .alloc 54)
    (h : ∀ g w' (z : Array Value), z.size = 33 → w'.heap[g]? = some (.cells z 54 (0, 0)) → g = w.heap.size → w'.heap.size = g + 1 → Kp (fun _ => False) w w' → wpList Try.prog ops Q rest (a.put o.dst (.pointer (some ⟨g, 0, none⟩))) w') : wpList Try.prog ops Q (o :: rest) a w :=
  wpList_plain hgd fun _ hK => opwp_alloc54 ho fun g w' z h1 h2 h3 h4 h5 => hK _ _ (h g w' z h1 h2 h3 h4 h5)

theorem wpList_box54 {w : World} {ops : Array Oper} {rest : List Oper} {o : Oper} {a : Act} {Q : Exit → Act → World → Prop} (hgd : o.guard = none) (x : Operand) (ho : o.op = .box 54 x) (cs : List Value) (hx : a.eval x = .agg cs.toArray) (hl : cs.length = 33) (h1 : ∀ v ∈ cs, v.oneCell' = true)
    (h : ∀ g w', w'.heap[g]? = some (.cells cs.toArray 54 (0, 0)) → g = w.heap.size → w'.heap.size = g + 1 → Kp (fun _ => False) w w' → wpList Try.prog ops Q rest (a.put o.dst (.pointer (some ⟨g, 0, none⟩))) w') : wpList Try.prog ops Q (o :: rest) a w := by
  refine wpList_plain hgd fun K hK => ?_
  unfold Oper.wp execOp
  simp only [ho, hx]
  go_simp
  exact hK _ _ (h _ _ (heap_alloc_new w _) rfl (by simp) (Kp.alloc _ _ _))

theorem wpList_store54 {w : World} {ops : Array Oper} {rest : List Oper} {o : Oper} {a : Act} {Q : Exit → Act → World → Prop} (hgd : o.guard = none) (x y : Operand) (ho : o.op = .store 54 x y) (g : Nat) (cs : List Value) (hx : a.eval x = .pointer (some ⟨g, 0, none⟩)) (hy : a.eval y = .agg cs.toArray)
    (z : Array Value) (hg : w.heap[g]? = some (.cells z 54 (0, 0))) (hz : z.size = 33) (hl : cs.length = 33) (h1 : ∀ v ∈ cs, v.oneCell' = true)
    (h : ∀ w', w'.heap[g]? = some (.cells cs.toArray 54 (0, 0)) → Kp (fun k => k = g) w w' → wpList Try.prog ops Q rest (a.put o.dst undef) w') : wpList Try.prog ops Q (o :: rest) a w := by
  refine wpList_store_row hgd 54 x y ho g cs.toArray hx hy 54 z hg ((by kernel_rfl : (Try.prog.info? 54).map (·.size) = some 33).trans (by simp [hl])) (by simp [hz, hl]) (all_oneCell_toArray h1) (h _ (heap_setRow_same w g z cs.toArray 54 hg) ?_)
  exact Kp.grown (grownBy_setRow w g cs.toArray) fun k e => (Option.some.inj e).symm

theorem range_of_heap {w : World} {g : Nat} {cs : List Value} {t : TypeId} {fr : Nat × Nat} (h : w.heap[g]? = some (.cells cs.toArray t fr)) : w.rangeAt g 0 cs := fun j v hv => by
  rw [Nat.zero_add, cell_of_row _ _ _ _ _ _ h]
  simpa using hv
theorem pk_one (p : Pk) : ∀ v ∈ pkCells p, v.oneCell' = true := by
  intro v hv
  have := pks_one [p] v (by simpa [pks] using hv)
  exact this
theorem info54s : (Try.prog.info? 54).map (·.size) = some 33 := by kernel_rfl

set_option maxHeartbeats 1000000 in
/-- own's closure for packets: the packet itself. -/
theorem pkself_any (p : Pk) (hp : p.h.length = 32) (w : World) : Calls Try.prog 25 #[.agg (pkCells p).toArray] w fun e w' => e = .returned (.agg (pkCells p).toArray) ∧ Kp (fun _ => False) w w' := by
  obtain ⟨cs, hcs⟩ : ∃ cs, cs = pkCells p := ⟨_, rfl⟩
  have hl : cs.length = 33 := by rw [hcs]; exact pkCells_len p hp
  have h1 := pk_one p
  rw [← hcs] at h1 ⊢
  have H1 := Lib.hid h1
  have HI := Lib.hid (info54s.trans (by rw [hl]) : (Try.prog.info? 54).map (·.size) = some cs.length)
  have HL := Lib.hid hl
  clear h1 hcs hl
  go_enter Try.func25, Try.ntmps25
  go_wp2_with (first
    | (refine wpList_box54 rfl (.tmp 0) rfl cs rfl HL.out H1.out ?_; intro g w1 hg eg sg kg; have HG := Lib.hid hg; have KG := Lib.hid kg; clear hg kg)
    | (refine wpList_alloc54 rfl rfl ?_; intro r w2 z hz hr er sr kr; have HZ := Lib.hid hz; have HR := Lib.hid hr; have KR := Lib.hid kr; clear hz hr kr)
    | (refine wpList_load_mid rfl 54 (.tmp 1) rfl g 0 rfl cs _ ?rr Try.underlying54 rfl HI.out ?_)
    | (refine wpList_store54 rfl (.tmp 2) (.tmp 3) rfl r cs rfl rfl z HR.out HZ.out HL.out H1.out ?_; intro w3 h3 k3; have H3 := Lib.hid h3; have K3 := Lib.hid k3; clear h3 k3))
  case rr => exact range_of_heap (KR.out.heap HG.out (fun h => h))
  refine bodyPost_ret (v := .agg cs.toArray) (results_cell_row rfl _ _ r 54 cs.toArray (0, 0) _ rfl H3.out Try.underlying54 rfl (HI.out.trans (by simp))) rfl ⟨rfl, ?_⟩
  exact (KG.out.trans KR.out fun _ (h : False) => h.elim).trans K3.out fun k hk => .inr (by have := KG.out.size; omega)

end Go.Proofs.Ytlkamfmepjddkaa
