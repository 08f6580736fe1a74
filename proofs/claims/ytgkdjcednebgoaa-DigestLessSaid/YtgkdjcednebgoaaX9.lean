/- Walk: slices.Chunk and its iterator. -/
import Derived.Test.YtgkdjcednebgoaaX8
import Derived.RangeFuncNested
import Derived.RangeFuncBound
import Derived.RangeFuncCalls
import Derived.RangeFuncLeaves
import Derived.Shelf.Abstract
import Derived.Shelf.RegionOpen
import Derived.OwnWalkIn
import Derived.TacticsInMore
import Derived.LoopNIn
import Derived.LoopIn
namespace Go.Proofs.Ytgkdjcednebgoaa
open Go.RowKit Go.Lib Go.Shelf
attribute [local go_sem] Oper.semAt_some

/-- All below n₀ is kept, but block S. -/
def KS (S n₀ : Nat) (W W' : World) : Prop := Kp (fun k => k = S ∨ n₀ ≤ k) W W'

set_option maxHeartbeats 1000000 in
theorem chunk_any (a : Option Addr) (len cap : Nat) (w : World) : Calls Try.prog 21 #[.slice a len cap, .int .i64 64] w fun e w' => e = .returned (.func (.func 28) #[] #[.pointer (some ⟨w.heap.size, 0, none⟩), .pointer (some ⟨w.heap.size + 1, 0, none⟩)]) ∧ w' = (w.alloc (.cells #[.slice a len cap] 33)).alloc (.cells #[.int .i64 64] 3) := by
  go_enter Try.func21, Try.ntmps21
  go_wp2_with fail
  go_ret
  exact ⟨rfl, rfl⟩

def ChPost (N : Nat) (J Jx : List Nat → World → Prop) (e : Ending) (W' : World) : Prop :=
  (∃ v, e = .returned v) ∧ ((∃ ys, ys = List.range N ∧ J ys W') ∨ (∃ pre, (∃ k, k ≤ N ∧ pre = List.range k) ∧ Jx pre W'))

set_option maxRecDepth 100000 in
set_option maxHeartbeats 2000000 in
theorem chunk1_in (n : Nat) (hn : 1 ≤ n) (l S Bs Bn n₀ g N cap : Nat) (hN : N ≤ 100000) (hcap : 64 * N ≤ cap) (hs : Bs < n₀ ∧ Bs ≠ S) (hb : Bn < n₀ ∧ Bn ≠ S) (J Jx : List Nat → World → Prop) (hJd : ∀ pre W, J pre W → J pre W.drew)
    (hY : ∀ pre x W, J pre W → pre.length < N → YieldAt Fence.wide (n - 1) Try.prog l #[.slice (some ⟨g, 64 * (x % N), none⟩) 64 64] W fun e W' =>
      (e = .returned (.bool true) ∧ J (pre ++ [x]) W' ∧ KS S n₀ W W') ∨ (e = .returned (.bool false) ∧ Jx (pre ++ [x]) W'))
    (W : World) (hBs : W.cell? ⟨Bs, 0, none⟩ = some (.slice (some ⟨g, 0, none⟩) (64 * N) cap)) (hBn : W.cell? ⟨Bn, 0, none⟩ = some (.int .i64 64)) (h0 : J [] W) :
    CallsIn Fence.wide n Try.prog 28 #[.func (.yield l) #[] #[], .pointer (some ⟨Bs, 0, none⟩), .pointer (some ⟨Bn, 0, none⟩)] W (ChPost N J Jx) := by
  refine callsIn_of_wp Try.func28 rfl trivial ?_ rfl
  simp only [Try.ntmps28, List.size_toArray, List.length_cons, List.length_nil, Nat.reduceAdd, Nat.reduceSub, Array.replicate_succ, Array.replicate_zero, List.push_toArray, List.append_toArray, List.nil_append, List.cons_append]
  gi_wp2
  gi_loopw [4] (fun i wr => ∃ k : Nat, k ≤ N ∧ i = .int .i64 ((64 * k : Nat) : Int) ∧ J (List.range k) wr ∧ KS S n₀ W wr)
    (fun i _ => 64 * N - (intOf i).toNat)
  case atStart => exact ⟨0, Nat.zero_le _, rfl, h0, Kp.refl _ _⟩
  case round =>
    obtain ⟨k, hk, rfl, hJs, hnx⟩ := hrel
    have HJ := Lib.hid hJs
    have HK := Lib.hid hnx
    have c1 : wr.cell? ⟨Bs, 0, none⟩ = some (.slice (some ⟨g, 0, none⟩) (64 * N) cap) := hnx.cell hBs (by simp; omega)
    have c2 : wr.cell? ⟨Bn, 0, none⟩ = some (.int .i64 64) := hnx.cell hBn (by simp; omega)
    clear hJs hnx
    obtain ⟨m, hm⟩ : ∃ m : Nat, m = 64 * k := ⟨_, rfl⟩
    rw [← hm]
    have HM := Lib.hid hm
    by_cases hlt : k < N
    · have hl1 : (m : Int) + 64 ≤ 64 * (N : Int) := by omega
      have hl2 : (m : Int) < 64 * (N : Int) := by omega
      have hl3 : m < 64 * N := by omega
      have hl4 : (m : Int) ≤ 6400000 := by omega
      have hl5 : (N : Int) ≤ 100000 := by omega
      have hl6 : m ≤ 64 * N := by omega
      have hl7 : 64 ≤ 64 * N - m := by omega
      have hl8 : ¬ (((64 * N - m : Nat) : Int) < 64) := by omega
      have hl9 : ¬ (64 * (N : Int) - (m : Int) < 64) := by omega
      have hla : m + 64 ≤ cap := by omega
      have hlb : (m : Int) + 64 ≤ (cap : Int) := by omega
      have hlc : ¬ cap = m := by omega
      obtain ⟨fn, tmps, assign, body, hy, hR⟩ := hY _ k wr.drew (hJd _ _ HJ.out) (by rw [List.length_range]; exact hlt)
      rw [Nat.mod_eq_of_lt hlt, ← hm] at hy
      clear hm
      gi_wp2
      gi_region
      all_goals
        gi_wp2
        refine hR.mono ?_
        rintro e W3 (⟨rfl, hJ3, hk3⟩ | ⟨rfl, hJx3⟩)
        · have d2 : W3.cell? ⟨Bn, 0, none⟩ = some (.int .i64 64) := Kp.cell hk3 (show wr.drew.cell? ⟨Bn, 0, none⟩ = _ from c2) (by simp; omega)
          have HK3 : Hid (KS S n₀ W W3) := Lib.hid ((HK.out.trans (Kp.drew (fun _ => False) _) fun _ h => h.elim).trans hk3 fun _ h => .inl h)
          have HJ3 := Lib.hid hJ3
          clear hJ3 hk3
          gi_wp2
          go_roundw
          case rel => exact ⟨k + 1, by omega, by rw [HM.out]; simp; omega, by rw [List.range_succ]; exact HJ3.out, HK3.out⟩
          case measure => simp [intOf]; omega
        · gi_wp2
          refine bodyPost_ret (results_none rfl _ _ _) rfl ?_
          exact ⟨⟨_, rfl⟩, .inr ⟨_, ⟨k + 1, by omega, List.range_succ.symm⟩, hJx3⟩⟩
    · have hk2 : N ≤ k := by omega
      obtain rfl : k = N := by omega
      have hl2 : ¬ (m : Int) < 64 * (k : Int) := by omega
      have hl3 : ¬ m < 64 * k := by omega
      gi_wp2
      go_end0
      exact ⟨⟨_, rfl⟩, .inl ⟨_, rfl, HJ.out⟩⟩
theorem chunk_stops (n : Nat) (hn : 1 ≤ n) (S Bs Bn n₀ g N cap : Nat) (hN : N ≤ 100000) (hcap : 64 * N ≤ cap) (hs : Bs < n₀ ∧ Bs ≠ S) (hb : Bn < n₀ ∧ Bn ≠ S) (w : World) (hBs0 : Bs < w.heap.size) (hBn0 : Bn < w.heap.size)
    (hBs : w.cell? ⟨Bs, 0, none⟩ = some (.slice (some ⟨g, 0, none⟩) (64 * N) cap)) (hBn : w.cell? ⟨Bn, 0, none⟩ = some (.int .i64 64)) :
    SeqStopsK Fence.wide n Try.prog 28 #[.pointer (some ⟨Bs, 0, none⟩), .pointer (some ⟨Bn, 0, none⟩)] (fun x : Nat => #[Value.slice (some ⟨g, 64 * (x % N), none⟩) 64 64]) (KS S n₀)
      (fun ys => ys = List.range N) (fun pre => ∃ k, k ≤ N ∧ pre = List.range k) N w := fun l J Jx W hW hJ _ hY h0 =>
  chunk1_in n hn l S Bs Bn n₀ g N cap hN hcap hs hb J Jx (fun pre U h => hJ pre U U.drew none h ⟨rfl, rfl, rfl, Nat.le_refl _, fun _ _ _ => rfl⟩ (fun r e => by cases e)) hY W
    ((hW.cell (p := ⟨Bs, 0, none⟩) hBs0).trans hBs) ((hW.cell (p := ⟨Bn, 0, none⟩) hBn0).trans hBn) h0

end Go.Proofs.Ytgkdjcednebgoaa
