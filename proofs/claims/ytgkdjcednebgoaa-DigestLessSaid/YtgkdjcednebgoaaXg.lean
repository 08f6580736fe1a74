/- Walks: comparing hashes. -/
import Derived.Test.YtgkdjcednebgoaaXe
namespace Go.Proofs.Ytgkdjcednebgoaa
open Go.RowKit Go.Lib

def cmp3 (x y : Nat) : Int := if x < y then -1 else if y < x then 1 else 0

theorem nan_any (x : Int) (w : World) : Calls Try.prog 39 #[.int .u8 x] w fun e w' => e = .returned (.bool false) ∧ w = w' := by
  go_enter Try.func39, Try.ntmps39
  go_wp2
  go_ret
  exact ⟨by simp, rfl⟩

set_option maxHeartbeats 1000000 in
theorem cmp_any (x y : Nat) (w : World) : Calls Try.prog 35 #[.int .u8 (x : Int), .int .u8 (y : Int)] w fun e w' => e = .returned (.int .i64 (cmp3 x y)) ∧ w = w' := by
  have h3 : x < y ∨ y < x ∨ x = y := by omega
  rcases h3 with h | h | h
  · have hi : (x : Int) < (y : Int) := by omega
    have E := Lib.hid (show cmp3 x y = -1 by simp [cmp3, h])
    go_enter Try.func35, Try.ntmps35
    go_wp2_with fail
    refine (nan_any _ _).mono ?_
    rintro e w' ⟨rfl, rfl⟩
    go_wp2_with fail
    refine (nan_any _ _).mono ?_
    rintro e w' ⟨rfl, rfl⟩
    go_wp2_with fail
    go_ret
    exact ⟨by rw [E.out]; rfl, rfl⟩
  · have hi : (y : Int) < (x : Int) := by omega
    have hn : ¬ (x : Int) < (y : Int) := by omega
    have hn2 : ¬ x < y := by omega
    have E := Lib.hid (show cmp3 x y = 1 by simp [cmp3, h, hn2])
    go_enter Try.func35, Try.ntmps35
    go_wp2_with fail
    refine (nan_any _ _).mono ?_
    rintro e w' ⟨rfl, rfl⟩
    go_wp2_with fail
    refine (nan_any _ _).mono ?_
    rintro e w' ⟨rfl, rfl⟩
    go_wp2_with fail
    go_ret
    exact ⟨by rw [E.out]; rfl, rfl⟩
  · subst h
    have E := Lib.hid (show cmp3 x x = 0 by simp [cmp3])
    have hn : ¬ x < x := by omega
    go_enter Try.func35, Try.ntmps35
    go_wp2_with fail
    refine (nan_any _ _).mono ?_
    rintro e w' ⟨rfl, rfl⟩
    go_wp2_with fail
    refine (nan_any _ _).mono ?_
    rintro e w' ⟨rfl, rfl⟩
    go_wp2_with fail
    go_ret
    exact ⟨by rw [E.out]; rfl, rfl⟩

/-- The order of two rows of bytes. -/
def lessL : List UInt8 → List UInt8 → Bool
  | x :: xs, y :: ys => if x = y then lessL xs ys else decide (x.toNat < y.toNat)
  | _, _ => false
def cmpL : List UInt8 → List UInt8 → Int
  | x :: xs, y :: ys => if x = y then cmpL xs ys else cmp3 x.toNat y.toNat
  | _, _ => 0

theorem lessL_refl : ∀ a, lessL a a = false
  | [] => rfl
  | x :: xs => by rw [lessL, if_pos rfl, lessL_refl xs]
theorem cmpL_refl : ∀ a, cmpL a a = 0
  | [] => rfl
  | x :: xs => by rw [cmpL, if_pos rfl, cmpL_refl xs]

theorem cmpL_lt : ∀ a b : List UInt8, decide (cmpL a b < 0) = lessL a b
  | [], _ => by simp [cmpL, lessL]
  | _ :: _, [] => by simp [cmpL, lessL]
  | x :: xs, y :: ys => by
    rw [cmpL, lessL]
    by_cases h : x = y
    · rw [if_pos h, if_pos h, cmpL_lt xs ys]
    · rw [if_neg h, if_neg h]
      have hn : x.toNat ≠ y.toNat := fun e => h (UInt8.toNat_inj.1 e)
      rw [Bool.eq_iff_iff]
      simp only [decide_eq_true_eq, cmp3]
      split
      · simp; omega
      · split <;> simp <;> omega

/-- At the first place where they differ. -/
theorem less_at : ∀ (k : Nat) (a b : List UInt8), a.take k = b.take k → k < a.length → k < b.length → a.getD k 0 ≠ b.getD k 0 →
    lessL a b = decide ((a.getD k 0).toNat < (b.getD k 0).toNat) ∧ cmpL a b = cmp3 (a.getD k 0).toNat (b.getD k 0).toNat
  | 0, x :: xs, y :: ys, _, _, _, h => by
    simp only [List.getD_cons_zero] at h ⊢
    rw [lessL, cmpL, if_neg h, if_neg h]
    exact ⟨rfl, rfl⟩
  | k + 1, x :: xs, y :: ys, ht, h1, h2, h => by
    simp only [List.take_succ_cons, List.cons.injEq] at ht
    simp only [List.getD_cons_succ] at h ⊢
    rw [lessL, cmpL, if_pos ht.1, if_pos ht.1]
    exact less_at k xs ys ht.2 (by simpa using h1) (by simpa using h2) h

set_option maxHeartbeats 1000000 in
theorem compare_any (w : World) (A B : Nat) (a b : List UInt8) (ha : a.length = 32) (hb : b.length = 32) (hA : w.heap[A]? = some (.cells (byteCells a).toArray 24 (0, 0))) (hB : w.heap[B]? = some (.cells (byteCells b).toArray 24 (0, 0))) :
    Calls Try.prog 27 #[.slice (some ⟨A, 0, none⟩) 32 32, .slice (some ⟨B, 0, none⟩) 32 32] w fun e w' => e = .returned (.int .i64 (cmpL a b)) ∧ w = w' := by
  have HA := Lib.hid hA
  have HB := Lib.hid hB
  clear hA hB
  go_enter Try.func27, Try.ntmps27
  go_wp2_with fail
  go_loop [11] (fun i => ∃ k : Nat, k ≤ 32 ∧ i = .int .i64 (k : Nat) ∧ Hid (a.take k = b.take k)) (fun i => 32 - (Go.RowKit.intOf i).toNat)
  case atStart => exact ⟨0, by omega, rfl, Lib.hid rfl⟩
  case round =>
    obtain ⟨k, hk, rfl, ht⟩ := hrel
    by_cases h1 : k < 32
    · obtain ⟨x, hx⟩ : ∃ x, a.getD k 0 = x := ⟨_, rfl⟩
      obtain ⟨y, hy⟩ : ∃ y, b.getD k 0 = y := ⟨_, rfl⟩
      have cx : w.cell? ⟨A, k, none⟩ = some (.int .u8 (x.toNat : Int)) := by rw [cell_of_row _ _ _ _ _ _ HA.out, ← hx]; exact rowB_some a k (by omega)
      have cy : w.cell? ⟨B, k, none⟩ = some (.int .u8 (y.toNat : Int)) := by rw [cell_of_row _ _ _ _ _ _ HB.out, ← hy]; exact rowB_some b k (by omega)
      have HX := Lib.hid hx
      have HY := Lib.hid hy
      clear hx hy
      have k32 : (k : Int) < 32 := by omega
      have kn : ¬ 32 ≤ (k : Int) := by omega
      by_cases hxy : x = y
      · subst hxy
        have E : Hid (cmp3 x.toNat x.toNat = 0) := Lib.hid (by simp [cmp3])
        go_wp2_with fail
        refine (cmp_any x.toNat x.toNat w).mono ?_
        rintro e w' ⟨rfl, rfl⟩
        rw [E.out]
        go_wp2_with fail
        go_round
        case rel =>
          refine ⟨k + 1, by omega, by simp, Lib.hid ?_⟩
          have e1 : a.getD k 0 = a[k]'(by omega) := by simp [List.getD, show k < a.length by omega]
          have e2 : b.getD k 0 = b[k]'(by omega) := by simp [List.getD, show k < b.length by omega]
          rw [List.take_succ_eq_append_getElem (by omega : k < a.length), List.take_succ_eq_append_getElem (by omega : k < b.length), ht.out, ← e1, ← e2, HX.out, HY.out]
        case measure => simp [Go.RowKit.intOf]; omega
      · have hL := (less_at k a b ht.out (by omega) (by omega) (by rw [HX.out, HY.out]; exact hxy)).2
        rw [HX.out, HY.out] at hL
        have HL := Lib.hid hL
        have hn : x.toNat ≠ y.toNat := fun e => hxy (UInt8.toNat_inj.1 e)
        obtain ⟨v, hv⟩ : ∃ v, cmp3 x.toNat y.toNat = v := ⟨_, rfl⟩
        have hv0 : (v != 0) = true := by
          rw [bne_iff_ne, ← hv]
          simp only [cmp3]
          split
          · omega
          · split <;> omega
        have HV := Lib.hid hv
        clear hL hv
        go_wp2_with fail
        refine (cmp_any x.toNat y.toNat w).mono ?_
        rintro e w' ⟨rfl, rfl⟩
        rw [HV.out]
        go_wp2_with fail
        go_ret
        exact ⟨by rw [HL.out, HV.out]; rfl, rfl⟩
    · obtain rfl : k = 32 := by omega
      have e : a = b := by
        have := ht.out
        rwa [List.take_of_length_le (by omega), List.take_of_length_le (by omega)] at this
      have E : Hid (cmpL a b = 0) := Lib.hid (by rw [e]; exact cmpL_refl b)
      clear e
      go_wp2_with fail
      go_ret
      exact ⟨by rw [E.out]; rfl, rfl⟩

end Go.Proofs.Ytgkdjcednebgoaa
