/- Walks: Next of no net; the iterator as a sequence. -/
import Derived.Test.YtlkamfmepjddkaaWi
set_option linter.unusedSimpArgs false
set_option linter.unusedVariables false
namespace Go.Proofs.Ytlkamfmepjddkaa
open Go.RowKit Go.Lib Go.Shelf

set_option maxRecDepth 100000 in
theorem next_nil (w : World) : Calls Try.prog 17 #[.pointer none] w fun e w' => e = .returned (.tuple #[rpV zeroR, .bool false]) ∧ Kp (fun _ => False) w w' := by
  obtain ⟨w0, hw0⟩ : ∃ w0, w0 = w.alloc (.cells #[.int .i64 0, .int .i64 0, .int .i64 0, .string ⟨#[]⟩] 50) := ⟨_, rfl⟩
  have K0 : Hid (Kp (fun _ => False) w w0) := Lib.hid (by rw [hw0]; exact Kp.alloc _ _ _)
  have hR : w0.heap[w.heap.size]? = some (.cells #[.int .i64 0, .int .i64 0, .int .i64 0, .string ⟨#[]⟩] 50 (0, 0)) := by rw [hw0]; exact heap_alloc_new w _
  have HR := Lib.hid hR
  clear hR
  go_enter Try.func17, Try.ntmps17
  go_wp2_with fail
  rw [← hw0]
  clear hw0
  refine (waiting_nil w0).mono ?_
  rintro e w' ⟨rfl, rfl⟩
  obtain ⟨z0, z1, z2, z3, zf⟩ := rp4 (m := ⟨0, 0, 0, ⟨#[]⟩⟩) HR.out
  go_wp2_with fail
  have hrs := rp_store w0 w.heap.size ⟨0, 0, 0, ⟨#[]⟩⟩ ⟨0, 0, 0, ⟨#[]⟩⟩ HR.out
  refine bodyPost_ret (v := .tuple #[rpV zeroR, .bool false]) (results_rowtmp rfl _ _ w.heap.size 50 _ (0, 0) _ rfl hrs.1 Try.underlying50 rfl info50s _ rfl) rfl ?_
  exact ⟨rfl, K0.out.old hrs.2 fun q hq => by omega⟩

theorem back_stops (n : Nat) (hn : 1 ≤ n) (S Bs n₀ N cap : Nat) (P : List Pk) (hP : N = P.length) (hp : ∀ p ∈ P, p.h.length = 32) (hN : N ≤ 1000) (sp : Option Addr) (hs : Bs < n₀ ∧ Bs ≠ S) (hg : ∀ k, spIn sp k → 0 < N → k < n₀ ∧ k ≠ S) (w : World) (hBs0 : Bs < w.heap.size)
    (hBs : w.cell? ⟨Bs, 0, none⟩ = some (.slice sp N cap)) (hsrc : Src w 33 sp N (pks P)) :
    SeqStopsK Fence.wide n Try.prog 40 #[.pointer (some ⟨Bs, 0, none⟩)] (fun x : Nat => #[.int .i64 ((N - 1 - x % N : Nat) : Int), .agg (pkCells (P.getD (N - 1 - x % N) zeroP)).toArray]) (KS S n₀)
      (fun ys => ys = List.range N) (fun pre => ∃ k, k ≤ N ∧ pre = List.range k) N w := fun l J Jx W hW hJ _ hY h0 => by
  refine back1_in n hn l S Bs n₀ N cap P hP hp hN sp hs hg J Jx (fun pre U h => hJ pre U U.drew none h ⟨rfl, rfl, rfl, Nat.le_refl _, fun _ _ _ => rfl⟩ (fun r e => by cases e)) hY W ((hW.cell (p := ⟨Bs, 0, none⟩) hBs0).trans hBs) ⟨hsrc.1, fun h => ?_⟩ h0
  obtain ⟨g, o, e, hr⟩ := hsrc.2 h
  exact ⟨g, o, e, fun j v hv => (hW.cell (p := ⟨g, o + j, none⟩) (World.block_lt_of_cell? w _ (hr j v hv))).trans (hr j v hv)⟩

end Go.Proofs.Ytlkamfmepjddkaa
