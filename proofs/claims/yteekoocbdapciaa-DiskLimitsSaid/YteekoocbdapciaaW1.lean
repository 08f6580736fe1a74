/- Walks: own and put of package disk. -/
import Derived.Test.YteekoocbdapciaaKit
namespace Go.Proofs.Yteekoocbdapciaa
open Go.RowKit Go.Lib

def OwnPost (B : Nat) (w : World) (c : List UInt8) (e : Ending) (w' : World) : Prop :=
  ∃ v, e = .returned v ∧ Bts w' B v c ∧ w.grownBy w' none ∧ v.ownBlock = some w.heap.size

set_option maxHeartbeats 400000 in
theorem own_any (B : Nat) (w : World) (v : Value) (c : List UInt8) (hv : Bts w B v c) (hB : B ≤ w.heap.size) (hc : c.length ≤ 16777216) :
    Calls Try.prog 37 #[v] w (OwnPost B w c) := by
  obtain ⟨i0, hi, hz0, hz1, hz2⟩ := info_parts Try.info5
  obtain ⟨hlen, hv⟩ := hv
  obtain ⟨sp, n, cap, rfl, hn, hsp⟩ : ∃ sp n cap, v = .slice sp n cap ∧ n = c.length ∧ (0 < n → ∃ ad, sp = some ad ∧ ∀ j u, (byteCells c)[j]? = some u → w.cell? (ad.add j) = some u) := by
    rcases hv with ⟨rfl, h⟩ | ⟨g, cap, cur, rfl, hb, hg, hncap, hm, hs, ht⟩
    · exact ⟨none, 0, 0, rfl, h.symm, fun h => by omega⟩
    · refine ⟨_, _, _, rfl, rfl, fun _ => ⟨_, rfl, ?_⟩⟩
      have ho : w.ownsRow B 5 1 (.slice (some ⟨g, 0, none⟩) c.length cap) c.length (byteCells c) := ⟨hlen, .inr ⟨g, cap, cur, rfl, hb, hg, hncap, hm, hs, ht⟩⟩
      exact ho.cells rfl
  have Hn := Lib.hid hn
  have hn' : n ≤ 16777216 := by omega
  clear hn
  have hcl : (byteCells c).length = n := by rw [byteCells_length, Hn.out]
  have Hcl := Lib.hid hcl
  have Hsp := Lib.hid hsp
  clear hcl hsp hlen hv
  have hmk : ∀ u : World, (Instr.makeSlice 56 (.int .i64 (n : Int)) (.int .i64 (n : Int))).run Try.prog u =
      .ok (.slice (some ⟨u.heap.size, 0, none⟩) n n) (u.alloc (.cells (madeCells #[.int .u8 0] n) 5)) := fun u => by
    have h := run_make (P := Try.prog) u 56 5 i0 (.int .u8 0) Try.underlying56 hi hz0 .i64 .i64 (n : Int) (n : Int) (by omega) (Int.le_refl _) (by rw [hz2]; omega) (by omega)
    simpa [hz1, Value.cells] using h
  go_enter Try.func37, Try.ntmps37
  go_wp2_with (refine wpList_copy_row2 rfl (.tmp 7) (.tmp 8) 56 56 rfl 5 Try.underlying56 (by kernel_rfl) (some ⟨w.heap.size, 0, none⟩) sp n n n cap rfl rfl w.heap.size 0 (madeCells #[.int .u8 0] n).toList 5 ?g1 (byteCells c) ?g2 ?g3 ?g4 ?g5 ?g6)
  case g1 => exact heap_alloc_new w _
  case g2 => rw [Hcl.out]; exact (Nat.min_self n).symm
  case g3 =>
    intro h
    obtain ⟨ad, h1, h2⟩ := Hsp.out (by have := Hcl.out; omega)
    exact ⟨ad, h1, fun j u hu => (World.grownBy_alloc w _ none).cell (h2 j u hu) (by simp)⟩
  case g4 => rw [Hcl.out, Array.length_toList, size_madeCells]; omega
  case g5 => exact byteCells_one c
  case g6 =>
    intro w' hw' hg'
    have e : splice (madeCells #[Value.int IntKind.u8 0] n).toList 0 (byteCells c) = byteCells c := by
      unfold splice
      rw [List.drop_of_length_le (by rw [Array.length_toList, size_madeCells, Hcl.out]; omega)]
      simp
    rw [e] at hw'
    have HW := Lib.hid hw'
    have HG := Lib.hid hg'
    clear hw' hg'
    go_wp2
    go_ret
    have hb := Bts.mk (B := B) HW.out hB (c := c) (cap := n) (by rw [← Hn.out]; exact Nat.le_refl _) (by unfold maxLen; omega) (by simp [Hcl.out]) (by rw [← Hn.out, ← Hcl.out]; simp)
    rw [← Hn.out] at hb
    exact ⟨_, rfl, hb, grownBy_new (World.grownBy_alloc w _ none) HG.out (Nat.le_refl _), rfl⟩

def PutPost (B : Nat) (w : World) (v : Value) (c : List UInt8) (off : Nat) (s : List UInt8) (e : Ending) (w' : World) : Prop :=
  ∃ v', e = .returned v' ∧ Bts w' B v' (putL c off s) ∧ w.grownBy w' v.ownBlock ∧ (v'.ownBlock = v.ownBlock ∨ v'.ownBlock = some w.heap.size)

theorem splice_take {α : Type} (L : List α) (off n : Nat) (x : List α) (h : off + x.length ≤ n) (h2 : n ≤ L.length) : (splice L off x).take n = splice (L.take n) off x := by
  simp only [splice, List.take_append, List.take_take, List.length_take, List.drop_take]
  have e1 : min off L.length = off := by omega
  have e0 : min n off = off := by omega
  have e00 : min off n = off := by omega
  rw [e0, e00, e1]
  have e2 : x.take (n - off) = x := List.take_of_length_le (by omega)
  have e3 : n - off - x.length = n - (off + x.length) := by omega
  rw [e2, e3]

theorem splice_zero {c : List UInt8} {m : Nat} (_h : c.length ≤ m) : splice (List.replicate m (Value.int .u8 0)) 0 (byteCells c) = byteCells (c ++ List.replicate (m - c.length) 0) := by
  rw [byteCells_append, byteCells_zeros]
  simp [splice, byteCells_length]

set_option maxHeartbeats 400000 in
theorem put_grow (B : Nat) (w : World) (v : Value) (c : List UInt8) (off : Nat) (s : ByteArray) (hv : Bts w B v c) (hB : B ≤ w.heap.size) (hc : c.length ≤ 16777216) (hs : off + s.size ≤ 16777216) (hg : c.length < off + s.size) :
    Calls Try.prog 38 #[v, .int .i64 off, .string s] w (PutPost B w v c off s.data.toList) := by
  obtain ⟨i0, hi, hz0, hz1, hz2⟩ := info_parts Try.info5
  obtain ⟨sp, cap, rfl, hsp⟩ := hv.view
  obtain ⟨m, hm⟩ : ∃ m, m = off + s.size := ⟨_, rfl⟩
  have hmk : ∀ u : World, (Instr.makeSlice 56 (.int .i64 ((off : Int) + (s.size : Int))) (.int .i64 ((off : Int) + (s.size : Int)))).run Try.prog u =
      .ok (.slice (some ⟨u.heap.size, 0, none⟩) (off + s.size) (off + s.size)) (u.alloc (.cells (madeCells #[.int .u8 0] (off + s.size)) 5)) := fun u => by
    have h := run_make (P := Try.prog) u 56 5 i0 (.int .u8 0) Try.underlying56 hi hz0 .i64 .i64 ((off : Int) + (s.size : Int)) ((off : Int) + (s.size : Int)) (by omega) (Int.le_refl _) (by rw [hz2]; omega) (by omega)
    have e : ((off : Int) + (s.size : Int)).toNat = off + s.size := by omega
    rw [e] at h
    simpa [hz1, Value.cells] using h
  obtain ⟨dp, hdp, hsl⟩ := slice_from (P := Try.prog) 56 5 Try.underlying56 (by kernel_rfl) (fun w => by kernel_rfl) w.heap.size (off + s.size) (off + s.size) off (by omega) (Nat.le_refl _)
  have Hdp := Lib.hid hdp
  have Hsp := Lib.hid hsp
  have Hv := Lib.hid hv
  clear hm hsp hv hdp
  go_enter Try.func38, Try.ntmps38
  go_wp2_with (refine wpList_copy_row2 rfl (.tmp 19) (.tmp 20) 56 56 rfl 5 Try.underlying56 (by kernel_rfl) (some ⟨w.heap.size, 0, none⟩) sp (off + s.size) (off + s.size) c.length cap rfl rfl w.heap.size 0 (madeCells #[.int .u8 0] (off + s.size)).toList 5 ?g1 (byteCells c) ?g2 ?g3 ?g4 ?g5 ?g6)
  case g1 => exact heap_alloc_new w _
  case g2 => rw [byteCells_length]; exact (Nat.min_eq_left (by omega)).symm
  case g3 =>
    intro h
    obtain ⟨ad, h1, h2⟩ := Hsp.out (by rwa [byteCells_length] at h)
    exact ⟨ad, h1, fun j u hu => (World.grownBy_alloc w _ none).cell (h2 j u hu) (by simp)⟩
  case g4 => rw [byteCells_length, madeCells_zeros, List.length_replicate]; omega
  case g5 => exact byteCells_one c
  case g6 =>
    intro w1 hw1 hg1
    rw [madeCells_zeros, splice_zero (by omega)] at hw1
    have hg2 := grownBy_new (World.grownBy_alloc w _ none) hg1 (Nat.le_refl _)
    have HW := Lib.hid hw1
    have HG := Lib.hid hg2
    clear hw1 hg1 hg2
    go_wp2_with (refine wpList_copy_str rfl (.tmp 25) (.tmp 26) 56 9 rfl 5 Try.underlying56 (by kernel_rfl) _ _ _ s rfl rfl ?k1 w.heap.size off (byteCells (c ++ List.replicate (off + s.size - c.length) 0)) 5 ?k2 ?k3 ?k4 ?k5)
    case k1 => exact Nat.le_refl _
    case k2 => exact HW.out
    case k3 => intro h; exact Hdp.out (by omega)
    case k4 => simp [byteCells_length]; omega
    case k5 =>
      intro w2 hw2 hg2
      rw [← byteCells_splice] at hw2
      have HW2 := Lib.hid hw2
      have HG2 := Lib.hid (grownBy_new HG.out hg2 (Nat.le_refl _))
      clear hw2 hg2
      go_wp2
      go_ret
      have e : (off + s.data.toList.length - c.length) = off + s.size - c.length := by rw [← size_eq]
      have hl : (splice (c ++ List.replicate (off + s.size - c.length) 0) off s.data.toList).length = off + s.size := by
        have := putL_length c off s.data.toList
        rw [putL, e, ← size_eq] at this
        omega
      have hb := Bts.mk (B := B) (c := splice (c ++ List.replicate (off + s.size - c.length) 0) off s.data.toList) HW2.out hB (cap := off + s.size) (by omega) (by unfold maxLen; omega) (by rw [List.size_toArray, byteCells_length, hl]) (by rw [List.take_of_length_le (by simp [byteCells_length])])
      rw [hl] at hb
      refine ⟨_, rfl, ?_, ⟨HG2.out.os, HG2.out.tape, HG2.out.output, HG2.out.size, fun k hk _ => HG2.out.block k hk (by simp)⟩, .inr rfl⟩
      rw [putL, e]
      exact hb


set_option maxHeartbeats 400000 in
theorem put_in (B : Nat) (w : World) (v : Value) (c : List UInt8) (off : Nat) (s : ByteArray) (hv : Bts w B v c) (hc : c.length ≤ 16777216) (hg : off + s.size ≤ c.length) :
    Calls Try.prog 38 #[v, .int .i64 off, .string s] w (PutPost B w v c off s.data.toList) := by
  have e : (off + s.data.toList.length - c.length) = 0 := by rw [← size_eq]; omega
  have hp : putL c off s.data.toList = splice c off s.data.toList := by rw [putL, e]; simp
  have hl : (splice c off s.data.toList).length = c.length := length_splice _ _ _ (by rw [← size_eq]; omega)
  have Hp := Lib.hid hp
  have Hl := Lib.hid hl
  clear e hp hl
  rcases hv.cases with ⟨rfl, rfl⟩ | ⟨g, cap, cur, rfl, hBg, hgg, hnc, hcm, hcs, hct⟩
  · obtain rfl : off = 0 := by simp at hg; omega
    obtain rfl : s = ByteArray.empty := by
      obtain ⟨⟨l⟩⟩ := s
      simp [ByteArray.size] at hg
      subst hg
      rfl
    have Hv := Lib.hid hv
    clear hv hg
    go_enter Try.func38, Try.ntmps38
    go_wp2_with (refine wpList_copy_str0 rfl (.tmp 25) (.tmp 26) 56 9 rfl 5 Try.underlying56 (by kernel_rfl) _ _ _ ByteArray.empty rfl rfl rfl ?_)
    go_ret
    refine ⟨_, rfl, ?_, World.grownBy.refl _ _, .inl rfl⟩
    rw [Hp.out]
    exact Hv.out
  · obtain ⟨dp, hdp, hsl⟩ := slice_from (P := Try.prog) 56 5 Try.underlying56 (by kernel_rfl) (fun w => by kernel_rfl) g c.length cap off (by omega) hnc
    have Hv := Lib.hid hv
    have Hg := Lib.hid hgg
    have Hct := Lib.hid hct
    have Hcs := Lib.hid hcs
    have Hdp := Lib.hid hdp
    clear hv hgg hct hcs hdp
    go_enter Try.func38, Try.ntmps38
    go_wp2_with (refine wpList_copy_str rfl (.tmp 25) (.tmp 26) 56 9 rfl 5 Try.underlying56 (by kernel_rfl) _ _ _ s rfl rfl ?m1 g off cur.toList 5 ?m2 ?m3 ?m4 ?m5)
    case m1 => omega
    case m2 => simpa using Hg.out
    case m3 => intro h; exact Hdp.out (by omega)
    case m4 => have := Hcs.out; simp; omega
    case m5 =>
      intro w2 hw2 hg2
      have HW2 := Lib.hid hw2
      have HG2 := Lib.hid hg2
      clear hw2 hg2
      go_wp2
      go_ret
      have h5 : cur.toList.length = cap := by rw [← Hcs.out]; exact Array.length_toList
      have ht : (splice cur.toList off (byteCells s.data.toList)).take c.length = byteCells (splice c off s.data.toList) := by
        rw [byteCells_splice, ← Hct.out, splice_take _ _ _ _ (by rw [byteCells_length, ← size_eq]; omega) (by omega)]
      have hb := Bts.mk (B := B) (c := splice c off s.data.toList) HW2.out hBg (cap := cap) (by rw [Hl.out]; exact hnc) hcm
        (by rw [List.size_toArray, length_splice _ _ _ (by rw [byteCells_length, ← size_eq, Array.length_toList, Hcs.out]; omega), Array.length_toList, Hcs.out]) (by rw [Hl.out]; exact ht)
      rw [Hl.out] at hb
      refine ⟨_, rfl, ?_, HG2.out, .inl rfl⟩
      rw [Hp.out]
      exact hb

theorem put_any (B : Nat) (w : World) (v : Value) (c : List UInt8) (off : Nat) (s : ByteArray) (hv : Bts w B v c) (hB : B ≤ w.heap.size) (hc : c.length ≤ 16777216) (hs : off + s.size ≤ 16777216) :
    Calls Try.prog 38 #[v, .int .i64 off, .string s] w (PutPost B w v c off s.data.toList) := by
  by_cases h : c.length < off + s.size
  · exact put_grow B w v c off s hv hB hc hs h
  · exact put_in B w v c off s hv hc (by omega)

end Go.Proofs.Yteekoocbdapciaa
