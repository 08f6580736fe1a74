/- Walks: Less, and the reference's; the law DigestTexts. -/
import Derived.Test.YtgkdjcednebgoaaXf
import Derived.Test.YtgkdjcednebgoaaXg
import Derived.Deep.MidRow
namespace Go.Proofs.Ytgkdjcednebgoaa
open Go.RowKit Go.Lib

def RLRel (w : World) (A B : Nat) (a b : List UInt8) (i : Value) (wr : World) : Prop :=
  ∃ k : Nat, i = .int .i64 (k : Nat) ∧ k ≤ 32 ∧ a.take k = b.take k ∧ wr.heap[A]? = some (.cells (byteCells a).toArray 24 (0, 0)) ∧ wr.heap[B]? = some (.cells (byteCells b).toArray 24 (0, 0)) ∧ Kp (fun _ => False) w wr

set_option maxRecDepth 100000 in
set_option maxHeartbeats 1000000 in
theorem rless_any (w : World) (a b : List UInt8) (ha : a.length = 32) (hb : b.length = 32) :
    Calls Try.prog 18 #[.agg (byteCells a).toArray, .agg (byteCells b).toArray] w fun e w' => e = .returned (.bool (lessL a b)) ∧ Kp (fun _ => False) w w' := by
  go_enter Try.func18, Try.ntmps18
  go_wp2_with fail
  go_loopw [5] (fun i wr => RLRel w w.heap.size (w.heap.size + 1) a b i wr) (fun i _ => 32 - (Go.RowKit.intOf i).toNat)
  case atStart => exact ⟨0, rfl, by omega, rfl, heap_alloc2_old w _ _, heap_alloc2_new w _ _, (Kp.alloc _ w _).trans (Kp.alloc (fun _ => False) _ _) fun _ h => h.elim⟩
  case round =>
    obtain ⟨k, rfl, hk, ht, hA, hB, hkp⟩ := hrel
    have HA := Lib.hid hA
    have HB := Lib.hid hB
    have HK := Lib.hid hkp
    have HT := Lib.hid ht
    clear hA hB hkp ht
    by_cases h1 : k < 32
    · obtain ⟨x, hx⟩ : ∃ x, a.getD k 0 = x := ⟨_, rfl⟩
      obtain ⟨y, hy⟩ : ∃ y, b.getD k 0 = y := ⟨_, rfl⟩
      have cx : wr.cell? ⟨w.heap.size, k, none⟩ = some (.int .u8 (x.toNat : Int)) := by rw [cell_of_row _ _ _ _ _ _ HA.out, ← hx]; exact rowB_some a k (by omega)
      have cy : wr.cell? ⟨w.heap.size + 1, k, none⟩ = some (.int .u8 (y.toNat : Int)) := by rw [cell_of_row _ _ _ _ _ _ HB.out, ← hy]; exact rowB_some b k (by omega)
      have HX := Lib.hid hx
      have HY := Lib.hid hy
      clear hx hy
      have k32 : (k : Int) < 32 := by omega
      have k0 : (0 : Int) ≤ k := by omega
      by_cases hxy : x = y
      · subst hxy
        go_wp2_with fail
        go_quiet (fail)
        go_wp2_with fail
        go_roundw
        case rel =>
          refine ⟨k + 1, by simp, by omega, ?_, HA.out, HB.out, HK.out.trans (Kp.drewN (fun _ => False) _ _) fun _ h => h.elim⟩
          have e1 : a.getD k 0 = a[k]'(by omega) := by simp [List.getD, show k < a.length by omega]
          have e2 : b.getD k 0 = b[k]'(by omega) := by simp [List.getD, show k < b.length by omega]
          rw [List.take_succ_eq_append_getElem (by omega : k < a.length), List.take_succ_eq_append_getElem (by omega : k < b.length), HT.out, ← e1, ← e2, HX.out, HY.out]
        case measure => simp [Go.RowKit.intOf]; omega
      · have hL := (less_at k a b HT.out (by omega) (by omega) (by rw [HX.out, HY.out]; exact hxy)).1
        rw [HX.out, HY.out] at hL
        have HL := Lib.hid hL
        have hn : ¬ (x.toNat : Int) = (y.toNat : Int) := fun e => hxy (UInt8.toNat_inj.1 (by omega))
        have hne : ((x.toNat : Int) != (y.toNat : Int)) = true := by rw [bne_iff_ne]; exact hn
        clear hL
        go_wp2_with fail
        go_quiet (fail)
        go_wp2_with fail
        obtain ⟨wx, hwx⟩ : ∃ wx, wx = wr.drewN nq := ⟨_, rfl⟩
        rw [← hwx]
        have dx : wx.cell? ⟨w.heap.size, k, none⟩ = some (.int .u8 (x.toNat : Int)) := by rw [hwx]; exact cx
        have dy : wx.cell? ⟨w.heap.size + 1, k, none⟩ = some (.int .u8 (y.toNat : Int)) := by rw [hwx]; exact cy
        have KX : Hid (Kp (fun _ => False) wr wx) := Lib.hid (by rw [hwx]; exact Kp.drewN _ _ _)
        clear hwx cx cy
        go_quiet (fail)
        go_wp2_with fail
        go_ret
        refine ⟨?_, (HK.out.trans KX.out fun _ h => h.elim).trans (Kp.drewN (fun _ => False) _ _) fun _ h => h.elim⟩
        rw [HL.out]
        simp
    · obtain rfl : k = 32 := by omega
      have e : a = b := by
        have := HT.out
        rwa [List.take_of_length_le (by omega), List.take_of_length_le (by omega)] at this
      have E : Hid (lessL a b = false) := Lib.hid (by rw [e]; exact lessL_refl b)
      clear e
      go_wp2_with fail
      go_ret
      exact ⟨by rw [E.out]; rfl, HK.out⟩

theorem rng_row {w : World} {A : Nat} {l : List UInt8} {t : TypeId} (h : w.heap[A]? = some (.cells (byteCells l).toArray t (0, 0))) : w.rangeAt A 0 (byteCells l) := by
  intro j v hv
  rw [Nat.zero_add, cell_of_row _ _ _ _ _ _ h]
  simpa using hv

theorem rng_kp {w w' : World} {A : Nat} {l : List Value} (h : w.rangeAt A 0 l) (hk : Kp (fun _ => False) w w') : w'.rangeAt A 0 l := fun j v hv => hk.cell (h j v hv) (fun h => h)

theorem yieldsIf_loadAt {ops : Array Oper} {S : World → Prop} {op : Oper} {a : Act} {v : Value} (hw : Region.wanted op (yielded ops a.tmps) = true) (ty : TypeId) (x : Operand) (ho : op.op = .load ty x)
    (h : ∀ w, S w → (Instr.loadAt ty (a.eval x)).run Try.prog w = .ok v w) : YieldsIf Try.prog ops S op v a :=
  .inl ⟨hw, fun w hw' => by
    unfold execOp
    simp only [ho, Sem.run_bind, h w hw', Result.andThen_ok, Sem.run_pure]⟩

set_option maxRecDepth 100000 in
set_option maxHeartbeats 1000000 in
theorem less_any (w : World) (a b : List UInt8) (ha : a.length = 32) (hb : b.length = 32) :
    Calls Try.prog 17 #[.agg (byteCells a).toArray, .agg (byteCells b).toArray] w fun e w' => e = .returned (.bool (lessL a b)) ∧ Kp (fun _ => False) w w' := by
  have hu := Try.underlying24
  have hia : (Try.prog.info? 24).map (·.size) = some (byteCells a).length := info24.trans (by simp [byteCells, ha])
  have hib : (Try.prog.info? 24).map (·.size) = some (byteCells b).length := info24.trans (by simp [byteCells, hb])
  have heq := run_eq32 a b ha hb
  have EL := Lib.hid (cmpL_lt a b)
  go_enter Try.func17, Try.ntmps17
  go_wp2_with fail
  obtain ⟨w0, hw0⟩ : ∃ w0, w0 = (w.alloc (.cells (byteCells a).toArray 24)).alloc (.cells (byteCells b).toArray 24) := ⟨_, rfl⟩
  have HA : Hid (w0.heap[w.heap.size]? = some (.cells (byteCells a).toArray 24 (0, 0))) := Lib.hid (by rw [hw0]; exact heap_alloc2_old w _ _)
  have HB : Hid (w0.heap[w.heap.size + 1]? = some (.cells (byteCells b).toArray 24 (0, 0))) := Lib.hid (by rw [hw0]; exact heap_alloc2_new w _ _)
  have K0 : Hid (Kp (fun _ => False) w w0) := Lib.hid (by rw [hw0]; exact (Kp.alloc _ w _).trans (Kp.alloc (fun _ => False) _ _) fun _ h => h.elim)
  rw [← hw0]
  clear hw0
  have ra := rng_row HA.out
  have rb := rng_row HB.out
  have la := run_loadAt_mid (P := Try.prog) w0.drew w.heap.size 0 24 (byteCells a) _ ((World.rangeAt_drew _ _ _ _).2 ra) hu rfl hia
  have lb := run_loadAt_mid (P := Try.prog) w0.drew (w.heap.size + 1) 0 24 (byteCells b) _ ((World.rangeAt_drew _ _ _ _).2 rb) hu rfl hib
  by_cases hab : a = b
  · have hf : (a == b) = false ∨ (a == b) = true := by cases (a == b) <;> simp
    have hbt : (a == b) = true := by simpa using hab
    rw [hbt] at heq
    have E : Hid (lessL a b = false) := Lib.hid (by rw [hab]; exact lessL_refl b)
    clear hf hab hbt hu hia hib ra rb
    refine wp_region_held_drew (S := fun w' => w' = w0.drew) (by kernel_rfl) rfl (fun hHeld => ?_)
    refine wpAnyH_take (i := 0) (v := _) rfl (by kernel_rfl) (by kernel_rfl) (by kernel_rfl) (fun _ _ _ h => h) (yieldsIf_loadAt (by rfl) _ _ rfl (fun w hSw => by subst hSw; exact la)) (by assumption) ?_
    simp only [Act.put, List.setIfInBounds_toArray, List.set_cons_zero, List.set_cons_succ]
    refine wpAnyH_take (i := 1) (v := _) rfl (by kernel_rfl) (by kernel_rfl) (by kernel_rfl) (fun _ _ _ h => h) (yieldsIf_loadAt (by rfl) _ _ rfl (fun w hSw => by subst hSw; exact lb)) (by assumption) ?_
    simp only [Act.put, List.setIfInBounds_toArray, List.set_cons_zero, List.set_cons_succ]
    refine wpAnyH_take (i := 2) (v := ?v1) rfl (by kernel_rfl) (by kernel_rfl) (by kernel_rfl) (fun _ _ _ h => h) (Or.inl ⟨by rfl, ?y1⟩) (by assumption) ?r1
    case y1 =>
      intro w hSw
      subst hSw
      go_simp
      with_reducible rfl
    simp only [Act.put, List.setIfInBounds_toArray, List.set_cons_zero, List.set_cons_succ]
    refine wpAnyH_take (i := 3) (v := ?v2) rfl (by kernel_rfl) (by kernel_rfl) (by kernel_rfl) (fun _ _ _ h => h) (Or.inl ⟨by rfl, ?y2⟩) (by assumption) ?r2
    case y2 =>
      intro w hSw
      subst hSw
      go_simp
      with_reducible rfl
    simp only [Act.put, List.setIfInBounds_toArray, List.set_cons_zero, List.set_cons_succ]
    refine wpAnyH_take (i := 4) (v := _) rfl (by kernel_rfl) (by kernel_rfl) (by kernel_rfl) (fun _ _ _ h => h) (Or.inr ⟨by rfl, rfl⟩) (by assumption) ?_
    simp only [Act.put, List.setIfInBounds_toArray, List.set_cons_zero, List.set_cons_succ]
    refine wpAnyH_take (i := 5) (v := _) rfl (by kernel_rfl) (by kernel_rfl) (by kernel_rfl) (fun _ _ _ h => h) (Or.inr ⟨by rfl, rfl⟩) (by assumption) ?_
    simp only [Act.put, List.setIfInBounds_toArray, List.set_cons_zero, List.set_cons_succ]
    refine wpAnyH_take (i := 6) (v := _) rfl (by kernel_rfl) (by kernel_rfl) (by kernel_rfl) (fun _ _ _ h => h) (Or.inr ⟨by rfl, rfl⟩) (by assumption) ?_
    simp only [Act.put, List.setIfInBounds_toArray, List.set_cons_zero, List.set_cons_succ]
    refine wpAnyH_take (i := 7) (v := _) rfl (by kernel_rfl) (by kernel_rfl) (by kernel_rfl) (fun _ _ _ h => h) (Or.inr ⟨by rfl, rfl⟩) (by assumption) ?_
    simp only [Act.put, List.setIfInBounds_toArray, List.set_cons_zero, List.set_cons_succ]
    refine wpAnyH_take (i := 8) (v := ?v3) rfl (by kernel_rfl) (by kernel_rfl) (by kernel_rfl) (fun _ _ _ h => h) (Or.inl ⟨by rfl, ?y3⟩) (by assumption) ?r3
    case y3 =>
      intro w hSw
      subst hSw
      go_simp
      with_reducible rfl
    simp only [Act.put, List.setIfInBounds_toArray, List.set_cons_zero, List.set_cons_succ]
    refine wpAnyH_take (i := 9) (v := ?v4) rfl (by kernel_rfl) (by kernel_rfl) (by kernel_rfl) (fun _ _ _ h => h) (Or.inl ⟨by rfl, ?y4⟩) (by assumption) ?r4
    case y4 =>
      intro w hSw
      subst hSw
      go_simp
      with_reducible rfl
    simp only [Act.put, List.setIfInBounds_toArray, List.set_cons_zero, List.set_cons_succ]
    refine wpAnyH_done (by kernel_rfl) ?_ _
    go_wp2_with fail
    go_ret
    exact ⟨by rw [E.out]; rfl, K0.out.trans (Kp.drew (fun _ => False) _) fun _ h => h.elim⟩
  · have hbt : (a == b) = false := by simpa using hab
    rw [hbt] at heq
    clear hbt hab hu hia hib ra rb
    refine wp_region_held_drew (S := fun w' => w' = w0.drew) (by kernel_rfl) rfl (fun hHeld => ?_)
    refine wpAnyH_take (i := 0) (v := _) rfl (by kernel_rfl) (by kernel_rfl) (by kernel_rfl) (fun _ _ _ h => h) (yieldsIf_loadAt (by rfl) _ _ rfl (fun w hSw => by subst hSw; exact la)) (by assumption) ?_
    simp only [Act.put, List.setIfInBounds_toArray, List.set_cons_zero, List.set_cons_succ]
    refine wpAnyH_take (i := 1) (v := _) rfl (by kernel_rfl) (by kernel_rfl) (by kernel_rfl) (fun _ _ _ h => h) (yieldsIf_loadAt (by rfl) _ _ rfl (fun w hSw => by subst hSw; exact lb)) (by assumption) ?_
    simp only [Act.put, List.setIfInBounds_toArray, List.set_cons_zero, List.set_cons_succ]
    refine wpAnyH_take (i := 2) (v := ?v5) rfl (by kernel_rfl) (by kernel_rfl) (by kernel_rfl) (fun _ _ _ h => h) (Or.inl ⟨by rfl, ?y5⟩) (by assumption) ?r5
    case y5 =>
      intro w hSw
      subst hSw
      go_simp
      with_reducible rfl
    simp only [Act.put, List.setIfInBounds_toArray, List.set_cons_zero, List.set_cons_succ]
    refine wpAnyH_take (i := 3) (v := ?v6) rfl (by kernel_rfl) (by kernel_rfl) (by kernel_rfl) (fun _ _ _ h => h) (Or.inl ⟨by rfl, ?y6⟩) (by assumption) ?r6
    case y6 =>
      intro w hSw
      subst hSw
      go_simp
      with_reducible rfl
    simp only [Act.put, List.setIfInBounds_toArray, List.set_cons_zero, List.set_cons_succ]
    refine wpAnyH_take (i := 4) (v := ?v7) rfl (by kernel_rfl) (by kernel_rfl) (by kernel_rfl) (fun _ _ _ h => h) (Or.inl ⟨by rfl, ?y7⟩) (by assumption) ?r7
    case y7 =>
      intro w hSw
      subst hSw
      go_simp
      with_reducible rfl
    simp only [Act.put, List.setIfInBounds_toArray, List.set_cons_zero, List.set_cons_succ]
    refine wpAnyH_take (i := 5) (v := ?v8) rfl (by kernel_rfl) (by kernel_rfl) (by kernel_rfl) (fun _ _ _ h => h) (Or.inl ⟨by rfl, ?y8⟩) (by assumption) ?r8
    case y8 =>
      intro w hSw
      subst hSw
      go_simp
      with_reducible rfl
    simp only [Act.put, List.setIfInBounds_toArray, List.set_cons_zero, List.set_cons_succ]
    refine wpAnyH_ready (rs := [6]) (by kernel_rfl) (by simp) ?_
    refine AllReadyH.cons rfl (fun K hK => ?_) AllReadyH.nil
    rw [if_pos (by rfl)]
    go_simp
    refine (compare_any w0.drew w.heap.size (w.heap.size + 1) a b ha hb HA.out HB.out).mono ?_
    rintro e w' ⟨rfl, rfl⟩
    dsimp only
    refine hK.out _ _ (rfl) (fun hHeld => ?_)
    clear hK K
    refine wpAnyH_take (i := 7) (v := ?v9) rfl (by kernel_rfl) (by kernel_rfl) (by kernel_rfl) (fun _ _ _ h => h) (Or.inl ⟨by rfl, ?y9⟩) (by assumption) ?r9
    case y9 =>
      intro w hSw
      subst hSw
      go_simp
      with_reducible rfl
    simp only [Act.put, List.setIfInBounds_toArray, List.set_cons_zero, List.set_cons_succ]
    refine wpAnyH_take (i := 8) (v := ?v10) rfl (by kernel_rfl) (by kernel_rfl) (by kernel_rfl) (fun _ _ _ h => h) (Or.inl ⟨by rfl, ?y10⟩) (by assumption) ?r10
    case y10 =>
      intro w hSw
      subst hSw
      go_simp
      with_reducible rfl
    simp only [Act.put, List.setIfInBounds_toArray, List.set_cons_zero, List.set_cons_succ]
    refine wpAnyH_take (i := 9) (v := ?v11) rfl (by kernel_rfl) (by kernel_rfl) (by kernel_rfl) (fun _ _ _ h => h) (Or.inl ⟨by rfl, ?y11⟩) (by assumption) ?r11
    case y11 =>
      intro w hSw
      subst hSw
      go_simp
      with_reducible rfl
    simp only [Act.put, List.setIfInBounds_toArray, List.set_cons_zero, List.set_cons_succ]
    refine wpAnyH_done (by kernel_rfl) ?_ _
    go_wp2_with fail
    go_ret
    refine ⟨?_, K0.out.trans (Kp.drew (fun _ => False) _) fun _ h => h.elim⟩
    rw [← EL.out]
    rfl

end Go.Proofs.Ytgkdjcednebgoaa
