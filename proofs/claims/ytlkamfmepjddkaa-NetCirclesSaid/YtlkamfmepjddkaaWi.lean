/- Walk: slices.Backward and its iterator. -/
import Derived.Test.YtlkamfmepjddkaaWh
import Derived.RangeFuncNested
import Derived.RangeFuncBound
import Derived.RangeFuncCalls
import Derived.RangeFuncLeaves
import Derived.Shelf.Abstract
import Derived.Shelf.RegionOpen
import Derived.OwnWalkIn
import Derived.TacticsInMore
import Derived.LoopNIn
import Derived.LoopIn
set_option linter.unusedSimpArgs false
set_option linter.unusedVariables false
namespace Go.Proofs.Ytlkamfmepjddkaa
open Go.RowKit Go.Lib Go.Shelf
attribute [local go_sem] Oper.semAt_some

def zeroP : Pk := ⟨List.replicate 32 0, emptyS⟩
/-- All below n₀ is kept, but block S. -/
def KS (S n₀ : Nat) (W W' : World) : Prop := Kp (fun k => k = S ∨ n₀ ≤ k) W W'

theorem wpListIn_load_mid {F : Fence} {n : Nat} {P : Program} {ops : Array Oper} {rest : List Oper} {op : Oper} {a : Act} {w : World} {Q : Exit → Act → World → Prop} (hgd : op.guard = none) (ty : TypeId) (x : Operand) (ho : op.op = .load ty x)
    (b o : Nat) (hx : a.eval x = .pointer (some ⟨b, o, none⟩)) (cs : List Value) (d : TypeDesc) (hc : w.rangeAt b o cs)
    (hu : P.underlying ty = some d) (hd : d.isRow = true) (hi : (P.info? ty).map (·.size) = some cs.length)
    (h : wpListIn F n P ops Q rest (a.put op.dst (.agg cs.toArray)) w) : wpListIn F n P ops Q (op :: rest) a w := by
  refine wpListIn_plain hgd fun K hK' => ?_
  unfold Oper.wpIn
  refine ⟨?_, ?_⟩
  · simp [Oper.about, ho]
  · rw [Oper.semAt_plain F _ _ (by rw [ho]; intro c hc'; cases hc')]
    unfold execOp
    simp only [ho, hx, Instr.loadAt, Instr.sureAddr, Sem.run_bind, Sem.run_pure, Result.andThen_ok, run_loadVar_mid w b o ty cs d hc hu hd hi]
    exact hK' _ _ h

set_option maxHeartbeats 1000000 in
theorem backward_any (a : Option Addr) (len cap : Nat) (w : World) : Calls Try.prog 27 #[.slice a len cap] w fun e w' => e = .returned (.func (.func 40) #[] #[.pointer (some ⟨w.heap.size, 0, none⟩)]) ∧ w' = w.alloc (.cells #[.slice a len cap] 37) := by
  go_enter Try.func27, Try.ntmps27
  go_wp2_with fail
  go_ret
  exact ⟨rfl, rfl⟩

def ChPost (N : Nat) (J Jx : List Nat → World → Prop) (e : Ending) (W' : World) : Prop :=
  (∃ v, e = .returned v) ∧ ((∃ ys, ys = List.range N ∧ J ys W') ∨ (∃ pre, (∃ k, k ≤ N ∧ pre = List.range k) ∧ Jx pre W'))

set_option maxRecDepth 100000 in
set_option maxHeartbeats 4000000 in
theorem back1_in (n : Nat) (hn : 1 ≤ n) (l S Bs n₀ N cap : Nat) (P : List Pk) (hP : N = P.length) (hp : ∀ p ∈ P, p.h.length = 32) (hN : N ≤ 1000) (sp : Option Addr) (hs : Bs < n₀ ∧ Bs ≠ S) (hg : ∀ k, spIn sp k → 0 < N → k < n₀ ∧ k ≠ S) (J Jx : List Nat → World → Prop) (hJd : ∀ pre W, J pre W → J pre W.drew)
    (hY : ∀ pre x W, J pre W → pre.length < N → YieldAt Fence.wide (n - 1) Try.prog l #[.int .i64 ((N - 1 - x % N : Nat) : Int), .agg (pkCells (P.getD (N - 1 - x % N) zeroP)).toArray] W fun e W' =>
      (e = .returned (.bool true) ∧ J (pre ++ [x]) W' ∧ KS S n₀ W W') ∨ (e = .returned (.bool false) ∧ Jx (pre ++ [x]) W'))
    (W : World) (hBs : W.cell? ⟨Bs, 0, none⟩ = some (.slice sp N cap)) (hsrc : Src W 33 sp N (pks P)) (h0 : J [] W) :
    CallsIn Fence.wide n Try.prog 40 #[.func (.yield l) #[] #[], .pointer (some ⟨Bs, 0, none⟩)] W (ChPost N J Jx) := by
  refine callsIn_of_wp Try.func40 rfl trivial ?_ rfl
  simp only [Try.ntmps40, List.size_toArray, List.length_cons, List.length_nil, Nat.reduceAdd, Nat.reduceSub, Array.replicate_succ, Array.replicate_zero, List.push_toArray, List.append_toArray, List.nil_append, List.cons_append]
  have HPL := Lib.hid hP
  clear hP
  have hw0 : IntKind.i64.wrap ((N : Int) - 1) = (N : Int) - 1 := IntWalk.i64_in _ (by omega)
  gi_wp2
  gi_loopw [3] (fun i wr => ∃ k : Nat, k ≤ N ∧ i = .int .i64 ((N : Int) - 1 - (k : Int)) ∧ J (List.range k) wr ∧ KS S n₀ W wr)
    (fun i _ => (Go.RowKit.intOf i + 1).toNat)
  case atStart => exact ⟨0, Nat.zero_le _, by congr 1; omega, h0, Kp.refl _ _⟩
  case round =>
    obtain ⟨k, hk, rfl, hJs, hnx⟩ := hrel
    have HJ := Lib.hid hJs
    have HK := Lib.hid hnx
    have c1 : wr.cell? ⟨Bs, 0, none⟩ = some (.slice sp N cap) := hnx.cell hBs (by simp; omega)
    clear hJs hnx
    by_cases hlt : k < N
    · obtain ⟨i, hi⟩ : ∃ i : Nat, i = N - 1 - k := ⟨_, rfl⟩
      have hii : (N : Int) - 1 - (k : Int) = (i : Int) := by omega
      rw [hii]
      have hiN : i < N := by omega
      obtain ⟨p, hpi⟩ : ∃ p, P[i]? = some p := ⟨_, List.getElem?_eq_getElem (by have := HPL.out; omega)⟩
      obtain ⟨g, o, rfl, hr⟩ := hsrc.2 (by omega)
      have hgg := hg g ⟨o, rfl⟩ (by omega)
      have rr := rangeAt_kp (rangeAt_flat pkCells 33 P hr i p (fun q hq => pkCells_len q (hp q hq)) hpi) HK.out (by simp; omega)
      obtain ⟨cs, hcs⟩ : ∃ cs, cs = pkCells p := ⟨_, rfl⟩
      have hl : cs.length = 33 := by rw [hcs]; exact pkCells_len p (hp p (List.mem_of_getElem? hpi))
      rw [← hcs] at rr
      have RR := Lib.hid rr
      have HI := Lib.hid (info54s.trans (by rw [hl]) : (Try.prog.info? 54).map (·.size) = some cs.length)
      obtain ⟨fn, tmps, assign, body, hy, hR⟩ := hY _ k wr HJ.out (by rw [List.length_range]; exact hlt)
      have hgd : P.getD i zeroP = p := by simp [List.getD, hpi]
      rw [Nat.mod_eq_of_lt hlt, ← hi, hgd, ← hcs] at hy
      have i0 : (0 : Int) ≤ (i : Int) := by omega
      have i1 : (i : Int) < (N : Int) := by omega
      have hwi : IntKind.i64.wrap ((i : Int) - 1) = (i : Int) - 1 := IntWalk.i64_in _ (by omega)
      have HII := Lib.hid hii
      clear rr hl hcs hpi hr hi hii
      gi_wp2_with (refine wpListIn_load_mid rfl 54 (.tmp 15) rfl g (o + i * 33) rfl cs _ RR.out Try.underlying54 rfl HI.out ?_)
      refine hR.mono ?_
      rintro e W3 (⟨rfl, hJ3, hk3⟩ | ⟨rfl, hJx3⟩)
      · have HK3 : Hid (KS S n₀ W W3) := Lib.hid (HK.out.trans hk3 fun _ h => .inl h)
        have HJ3 := Lib.hid hJ3
        clear hJ3 hk3
        gi_wp2
        go_roundw
        case rel => exact ⟨k + 1, by omega, by first | (congr 1; have := HII.out; omega) | (have := HII.out; simp; omega), by rw [List.range_succ]; exact HJ3.out, HK3.out⟩
        case measure => simp [Go.RowKit.intOf]
      · gi_wp2
        refine bodyPost_ret (results_none rfl _ _ _) rfl ?_
        exact ⟨⟨_, rfl⟩, .inr ⟨_, ⟨k + 1, by omega, List.range_succ.symm⟩, hJx3⟩⟩
    · obtain rfl : k = N := by omega
      have hneg : (k : Int) - 1 - (k : Int) = -1 := by omega
      rw [hneg]
      gi_wp2
      go_end0
      exact ⟨⟨_, rfl⟩, .inl ⟨_, rfl, HJ.out⟩⟩

end Go.Proofs.Ytlkamfmepjddkaa
