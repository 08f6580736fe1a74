/- Walks: the remainder; the examples of the chapter. -/
import Derived.Test.YtgkdjcednebgoaaXd
import Derived.Stop.BytesEq
namespace Go.Proofs.Ytgkdjcednebgoaa
open Go.RowKit Go.Lib

theorem tmod_bd (x m : Int) (hm : 1 ≤ m) : -m < x.tmod m ∧ x.tmod m < m := by
  have h1 := Int.tmod_lt_of_pos x (show 0 < m by omega)
  have h2 := Int.lt_tmod_of_pos x (show 0 < m by omega)
  omega

theorem mod_eq (x m : Int) (_hm : 1 ≤ m) : (x.tmod m + m) % m = x % m := by
  rw [Int.add_emod_right]
  by_cases h : 0 ≤ x
  · rw [Int.tmod_eq_emod_of_nonneg h, Int.emod_emod]
  · have e : x.tmod m = -((-x) % m) := by
      rw [← Int.tmod_eq_emod_of_nonneg (by omega), Int.neg_tmod]
      omega
    rw [e]
    have h1 : -((-x) % m) = x + m * ((-x) / m) := by
      have := Int.emod_add_mul_ediv (-x) m
      omega
    rw [h1, Int.add_mul_emod_self_left]

set_option maxHeartbeats 400000 in
theorem mod_any (x m : Int) (w : World) (hm : 1 ≤ m) (hm2 : m ≤ 1000000) :
    Calls Try.prog 14 #[.int .i64 x, .int .i64 m] w fun e w' => e = .returned (.int .i64 (x % m)) ∧ w = w' := by
  have hb := tmod_bd x m hm
  obtain ⟨hb1, hb2⟩ := hb
  have he := Lib.hid (mod_eq x m hm)
  go_enter Try.func14, Try.ntmps14
  go_wp2
  go_ret
  exact ⟨by rw [← he.out]; rfl, rfl⟩


theorem hashL_len (F : List Nat) (h : F.length = 8) : (hashL F).length = 32 := hashL_length F h
theorem hashOf_length (s : List UInt8) : (hashOf s).length = 32 := hashL_length _ (foldB_length _ _)

/-- Sum, the bytes given. -/
theorem sum_at (s : ByteArray) (l : List UInt8) (hl : s.data.toList = l) (w : World) (hs : s.size ≤ 100000) : Calls Try.prog 11 #[.string s] w fun e w' => e = .returned (.agg (byteCells (hashOf l)).toArray) ∧ Kp (fun _ => False) w w' := by
  subst hl
  exact sum_any s w hs
theorem text_at (w : World) (h : List UInt8) (t : ByteArray) (ht : textL h = t.data.toList) (hl : h.length = 32) : Calls Try.prog 15 #[.agg (byteCells h).toArray] w fun e w' => e = .returned (.string t) ∧ Kp (fun _ => False) w w' := by
  refine (text_any w h hl).mono ?_
  rintro e w' ⟨rfl, hb⟩
  refine ⟨?_, Below.kp hb⟩
  rw [ht]

def SaneP (w : World) (e : Ending) (w' : World) : Prop := e = .returned (.bool true) ∧ Kp (fun _ => False) w w'

set_option maxRecDepth 100000 in
set_option maxHeartbeats 2000000 in
theorem sanity_any (w : World) : Calls Try.prog 10 #[] w (SaneP w) := by
  obtain ⟨HA, hA⟩ : ∃ H, H = hashOf [] := ⟨_, rfl⟩
  obtain ⟨HB, hB⟩ : ∃ H, H = hashOf [97, 98, 99] := ⟨_, rfl⟩
  have lA : HA.length = 32 := by rw [hA]; exact hashOf_length _
  have lB : HB.length = 32 := by rw [hB]; exact hashOf_length _
  have TA := Lib.hid (show textL HA = (⟨#[101, 51, 98, 48, 99, 52, 52, 50, 57, 56, 102, 99, 49, 99, 49, 52, 57, 97, 102, 98, 102, 52, 99, 56, 57, 57, 54, 102, 98, 57, 50, 52, 50, 55, 97, 101, 52, 49, 101, 52, 54, 52, 57, 98, 57, 51, 52, 99, 97, 52, 57, 53, 57, 57, 49, 98, 55, 56, 53, 50, 98, 56, 53, 53]⟩ : ByteArray).data.toList by rw [hA]; exact textA)
  have TB := Lib.hid (show textL HB = (⟨#[98, 97, 55, 56, 49, 54, 98, 102, 56, 102, 48, 49, 99, 102, 101, 97, 52, 49, 52, 49, 52, 48, 100, 101, 53, 100, 97, 101, 50, 50, 50, 51, 98, 48, 48, 51, 54, 49, 97, 51, 57, 54, 49, 55, 55, 97, 57, 99, 98, 52, 49, 48, 102, 102, 54, 49, 102, 50, 48, 48, 49, 53, 97, 100]⟩ : ByteArray).data.toList by rw [hB]; exact textB)
  have EA := Lib.hid hA.symm
  have EB := Lib.hid hB.symm
  clear hA hB
  go_enter Try.func10, Try.ntmps10
  go_wp2_with fail
  refine (sum_at _ [] rfl w (by decide +kernel)).mono ?_
  rintro e w1 ⟨rfl, k1⟩
  rw [EA.out]
  have K1 := Lib.hid k1
  clear k1
  go_wp2_with fail
  refine (text_at w1 HA ⟨#[101, 51, 98, 48, 99, 52, 52, 50, 57, 56, 102, 99, 49, 99, 49, 52, 57, 97, 102, 98, 102, 52, 99, 56, 57, 57, 54, 102, 98, 57, 50, 52, 50, 55, 97, 101, 52, 49, 101, 52, 54, 52, 57, 98, 57, 51, 52, 99, 97, 52, 57, 53, 57, 57, 49, 98, 55, 56, 53, 50, 98, 56, 53, 53]⟩ TA.out lA).mono ?_
  rintro e w2 ⟨rfl, k2⟩
  have K2 := Lib.hid (K1.out.trans k2 fun _ h => h.elim)
  clear k2
  go_wp2_with fail
  refine (sum_at _ [97, 98, 99] rfl w2 (by decide +kernel)).mono ?_
  rintro e w3 ⟨rfl, k3⟩
  rw [EB.out]
  have K3 := Lib.hid (K2.out.trans k3 fun _ h => h.elim)
  clear k3
  go_wp2_with fail
  refine (text_at w3 HB ⟨#[98, 97, 55, 56, 49, 54, 98, 102, 56, 102, 48, 49, 99, 102, 101, 97, 52, 49, 52, 49, 52, 48, 100, 101, 53, 100, 97, 101, 50, 50, 50, 51, 98, 48, 48, 51, 54, 49, 97, 51, 57, 54, 49, 55, 55, 97, 57, 99, 98, 52, 49, 48, 102, 102, 54, 49, 102, 50, 48, 48, 49, 53, 97, 100]⟩ TB.out lB).mono ?_
  rintro e w4 ⟨rfl, k4⟩
  have K4 := Lib.hid (K3.out.trans k4 fun _ h => h.elim)
  clear k4
  go_wp2_with fail
  go_ret
  exact ⟨rfl, K4.out⟩

theorem run_eq32 (H G : List UInt8) (hH : H.length = 32) (hG : G.length = 32) (u : World) : (Op.equalIn 10000 24 (.agg (byteCells H).toArray) (.agg (byteCells G).toArray)).run Try.prog u = .ok (H == G) u :=
  run_equalIn_bytes u 9998 24 5 32 Try.underlying24 Try.underlying5 (by intro w; kernel_rfl) H G hH hG

set_option maxRecDepth 100000 in
set_option maxHeartbeats 2000000 in
theorem sums_walk (W : World) (s : ByteArray) (hs : s.size ≤ 9223372036854775807) : Calls Try.prog 3 #[.string s] W fun e w' => e = .returned (.bool true) ∧ Below W.heap.size W w' := by
  obtain ⟨m, hm⟩ : ∃ m : Nat, m = min s.size 500 := ⟨_, rfl⟩
  have hm1 : m ≤ s.size := by omega
  have hm2 : m ≤ 500 := by omega
  obtain ⟨x, hx⟩ : ∃ x, x = s.extract 0 m := ⟨_, rfl⟩
  have hxs : x.size ≤ 100000 := by rw [hx, ByteArray.size_extract]; omega
  have HM := Lib.hid hm
  have HX := Lib.hid hx.symm
  clear hm hx
  obtain ⟨H, hH⟩ : ∃ H, H = hashOf x.data.toList := ⟨_, rfl⟩
  have hHl : H.length = 32 := by rw [hH]; exact hashOf_length _
  have heq := run_eq32 H H hHl hHl
  rw [beq_self_eq_true] at heq
  have HH := Lib.hid hH.symm
  clear hH
  go_enter Try.func3, Try.ntmps3
  go_wp2_with fail
  refine (sanity_any W).mono ?_
  rintro e w1 ⟨rfl, k1⟩
  have K1 := Lib.hid k1
  clear k1
  go_wp2_with (refine wpList_min rfl (.tmp 8) (.const (.int .i64 500)) #[3, 3] rfl .i64 _ _ (m : Int) rfl rfl (by have := HM.out; omega) ?_)
  rw [HX.out]
  refine (sum_any x w1 hxs).mono ?_
  rintro e w2 ⟨rfl, k2⟩
  rw [HH.out]
  have K2 := Lib.hid (K1.out.trans k2 fun _ h => h.elim)
  clear k2
  go_wp2_with fail
  refine (rsum_any x w2 hxs).mono ?_
  rintro e w3 ⟨rfl, k3⟩
  rw [HH.out]
  have K3 := Lib.hid (K2.out.trans k3 fun _ h => h.elim)
  clear k3
  go_wp2_with fail
  have K4 := K3.out
  go_ret
  exact ⟨rfl, K4.belowS⟩

end Go.Proofs.Ytgkdjcednebgoaa
