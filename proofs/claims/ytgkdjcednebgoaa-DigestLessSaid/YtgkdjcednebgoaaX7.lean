/- Walk: the reference's Sum. -/
import Derived.Test.YtgkdjcednebgoaaX5
import Derived.Test.YtgkdjcednebgoaaX6
namespace Go.Proofs.Ytgkdjcednebgoaa
open Go.RowKit Go.Lib

theorem blockF_length (st : List Nat) (b : List UInt8) (h : st.length = 8) : (blockF st b).length = 8 := by
  simp [blockF, sumL, V8.list, h]

/-- The states behind the first blocks of a message. -/
def foldB (m : List UInt8) : Nat → List Nat
  | 0 => startL
  | k + 1 => blockF (foldB m k) ((m.drop (64 * k)).take 64)
def hashL (F : List Nat) : List UInt8 := F.flatMap be4
def hashOf (s : List UInt8) : List UInt8 := hashL (foldB (padL s) ((padL s).length / 64))

theorem foldB_length (m : List UInt8) : ∀ k, (foldB m k).length = 8
  | 0 => rfl
  | k + 1 => blockF_length _ _ (foldB_length m k)

def agg8 (s0 s1 s2 s3 s4 s5 s6 s7 : Nat) : Value := .agg #[.int .u32 (s0 : Int), .int .u32 (s1 : Int), .int .u32 (s2 : Int), .int .u32 (s3 : Int), .int .u32 (s4 : Int), .int .u32 (s5 : Int), .int .u32 (s6 : Int), .int .u32 (s7 : Int)]

def BPost (F : List Nat) (w : World) (e : Ending) (w' : World) : Prop :=
  ∃ r0 r1 r2 r3 r4 r5 r6 r7 : Nat, F = [r0, r1, r2, r3, r4, r5, r6, r7] ∧ e = .returned (.agg #[.int .u32 (r0 : Int), .int .u32 (r1 : Int), .int .u32 (r2 : Int), .int .u32 (r3 : Int), .int .u32 (r4 : Int), .int .u32 (r5 : Int), .int .u32 (r6 : Int), .int .u32 (r7 : Int)]) ∧ Kp (fun _ => False) w w'

theorem block_at (w : World) (s0 s1 s2 s3 s4 s5 s6 s7 : Nat) (b : ByteArray) (l : List UInt8) (hb : b.size = 64) (hl : b.data.toList = l) :
    Calls Try.prog 24 #[.agg #[.int .u32 (s0 : Int), .int .u32 (s1 : Int), .int .u32 (s2 : Int), .int .u32 (s3 : Int), .int .u32 (s4 : Int), .int .u32 (s5 : Int), .int .u32 (s6 : Int), .int .u32 (s7 : Int)], .string b] w (BPost (blockF [s0, s1, s2, s3, s4, s5, s6, s7] l) w) := by
  subst hl
  refine (block_any w [s0, s1, s2, s3, s4, s5, s6, s7] b rfl hb).mono ?_
  rintro e w' ⟨rfl, hk⟩
  obtain ⟨r0, r1, r2, r3, r4, r5, r6, r7, hr⟩ := eight _ (blockF_length [s0, s1, s2, s3, s4, s5, s6, s7] b.data.toList rfl)
  exact ⟨r0, r1, r2, r3, r4, r5, r6, r7, hr, by rw [hr]; rfl, hk⟩

theorem set8 {w : World} {S : Nat} {cs : List Value} (h : w.heap[S]? = some (.cells cs.toArray 40 (0, 0))) (hc : cs.length = 8) (r0 r1 r2 r3 r4 r5 r6 r7 : Value) :
    ((((((((w.setCell ⟨S, 0, none⟩ r0).setCell ⟨S, 1, none⟩ r1).setCell ⟨S, 2, none⟩ r2).setCell ⟨S, 3, none⟩ r3).setCell ⟨S, 4, none⟩ r4).setCell ⟨S, 5, none⟩ r5).setCell ⟨S, 6, none⟩ r6).setCell ⟨S, 7, none⟩ r7).heap[S]? = some (.cells #[r0, r1, r2, r3, r4, r5, r6, r7] 40 (0, 0)) := by
  match cs, hc with
  | [c0, c1, c2, c3, c4, c5, c6, c7], _ =>
    have h0 := heap_setCell_same w S 0 _ 40 r0 h
    have h1 := heap_setCell_same _ S 1 _ 40 r1 h0
    have h2 := heap_setCell_same _ S 2 _ 40 r2 h1
    have h3 := heap_setCell_same _ S 3 _ 40 r3 h2
    have h4 := heap_setCell_same _ S 4 _ 40 r4 h3
    have h5 := heap_setCell_same _ S 5 _ 40 r5 h4
    have h6 := heap_setCell_same _ S 6 _ 40 r6 h5
    have h7 := heap_setCell_same _ S 7 _ 40 r7 h6
    simp only [List.setIfInBounds_toArray, List.set_cons_zero, List.set_cons_succ] at h7
    exact h7

theorem set8_kp (w : World) (S : Nat) (r0 r1 r2 r3 r4 r5 r6 r7 : Value) :
    Kp (fun k => k = S) w ((((((((w.setCell ⟨S, 0, none⟩ r0).setCell ⟨S, 1, none⟩ r1).setCell ⟨S, 2, none⟩ r2).setCell ⟨S, 3, none⟩ r3).setCell ⟨S, 4, none⟩ r4).setCell ⟨S, 5, none⟩ r5).setCell ⟨S, 6, none⟩ r6).setCell ⟨S, 7, none⟩ r7) := by
  have st : ∀ (u : World) (j : Nat) (v : Value), Kp (fun k => k = S) u (u.setCell ⟨S, j, none⟩ v) := fun u j v => Kp.setCell (F := fun k => k = S) u (a := ⟨S, j, none⟩) v rfl
  have tr : ∀ {a b c : World}, Kp (fun k => k = S) a b → Kp (fun k => k = S) b c → Kp (fun k => k = S) a c := fun h k => h.trans k fun _ h => .inl h
  exact tr (tr (tr (tr (tr (tr (tr (st _ 0 _) (st _ 1 _)) (st _ 2 _)) (st _ 3 _)) (st _ 4 _)) (st _ 5 _)) (st _ 6 _)) (st _ 7 _)

theorem hashL_length (F : List Nat) (h : F.length = 8) : (hashL F).length = 32 := by
  obtain ⟨s0, s1, s2, s3, s4, s5, s6, s7, rfl⟩ := eight F h
  rfl

theorem hashL_get (F : List Nat) (h : F.length = 8) (k : Nat) (hk : k < 32) : (hashL F).getD k 0 = UInt8.ofNat (F.getD (k / 4) 0 / 2 ^ (8 * (3 - k % 4))) := by
  obtain ⟨s0, s1, s2, s3, s4, s5, s6, s7, rfl⟩ := eight F h
  have h2 : (k = 4 * (k / 4) + k % 4) ∧ k / 4 < 8 ∧ k % 4 < 4 := by omega
  obtain ⟨e, h8, h4⟩ := h2
  generalize k / 4 = a at *
  generalize k % 4 = b at *
  subst e
  have ha : a = 0 ∨ a = 1 ∨ a = 2 ∨ a = 3 ∨ a = 4 ∨ a = 5 ∨ a = 6 ∨ a = 7 := by omega
  have hb : b = 0 ∨ b = 1 ∨ b = 2 ∨ b = 3 := by omega
  rcases ha with rfl | rfl | rfl | rfl | rfl | rfl | rfl | rfl <;> rcases hb with rfl | rfl | rfl | rfl <;> simp [hashL, be4]

def S2Rel (w : World) (g : Nat) (l : List UInt8) (i : Value) (wr : World) : Prop :=
  ∃ k : Nat, i = .int .i64 (k : Nat) ∧ k ≤ 32 ∧ wr.heap[g]? = some (.cells (byteCells (l.take k ++ List.replicate (32 - k) 0)).toArray 24 (0, 0)) ∧ Kp (fun k => k = g) w wr

theorem rowB_some (l : List UInt8) (k : Nat) (h : k < l.length) : (byteCells l).toArray[k]? = some (.int .u8 ((l.getD k 0).toNat : Int)) := by
  simp [byteCells, h, List.getD]

theorem oneU8 (l : List UInt8) : (byteCells l).toArray.all (·.oneCell') = true := by
  rw [Array.all_eq_true]
  intro i h
  simp [byteCells, Value.oneCell']

theorem s2rel_step {w wr : World} {g k : Nat} {l : List UInt8} (hrow : wr.heap[g]? = some (.cells (byteCells (l.take k ++ List.replicate (32 - k) 0)).toArray 24 (0, 0))) (hkp : Kp (fun k => k = g) w wr) (hk : k < 32) (hl : l.length = 32) :
    S2Rel w g l (.int .i64 ((k : Int) + 1)) (wr.setCell ⟨g, k, none⟩ (.int .u8 ((l.getD k 0).toNat : Int))) := by
  refine ⟨k + 1, by simp, by omega, ?_, hkp.trans (Kp.setCell (F := fun j => j = g) wr (a := ⟨g, k, none⟩) _ rfl) fun j hj => .inl hj⟩
  rw [heap_setCell_same wr g k _ 24 _ hrow]
  congr 2
  apply Array.ext'
  rw [Array.toList_setIfInBounds, List.toList_toArray, List.toList_toArray]
  obtain ⟨m, hm⟩ : ∃ m, 32 - k = m + 1 := ⟨32 - k - 1, by omega⟩
  have hm2 : 32 - (k + 1) = m := by omega
  have e : (byteCells (l.take k ++ List.replicate (32 - k) 0)).set k (.int .u8 ((l.getD k 0).toNat : Int)) = byteCells ((l.take k ++ List.replicate (32 - k) 0).set k (l.getD k 0)) := by
    simp only [byteCells, List.map_set]
  have ht : (l.take k).length = k := by simp; omega
  rw [e, hm, hm2, List.replicate_succ (n := m), List.set_append_right _ _ (by omega), ht, Nat.sub_self, List.take_succ_eq_append_getElem (by omega : k < l.length), List.set_cons_zero, List.append_assoc]
  have eg : l.getD k 0 = l[k]'(by omega) := by simp [List.getD, show k < l.length by omega]
  rw [eg]
  rfl

def S1Rel (w : World) (S : Nat) (m : List UInt8) (n : Nat) (i : Value) (wr : World) : Prop :=
  ∃ k : Nat, i = .int .i64 ((64 * k : Nat) : Int) ∧ 64 * k ≤ n ∧ wr.heap[S]? = some (.cells (u32Cells (foldB m k)).toArray 40 (0, 0)) ∧ Kp (fun k => k = S) w wr

set_option maxRecDepth 100000 in
set_option maxHeartbeats 4000000 in
theorem rsum_any (s : ByteArray) (w : World) (hs : s.size ≤ 100000) : Calls Try.prog 12 #[.string s] w fun e w' => e = .returned (.agg (byteCells (hashOf s.data.toList)).toArray) ∧ Kp (fun _ => False) w w' := by
  obtain ⟨m, hm⟩ : ∃ m, m = padL s.data.toList := ⟨_, rfl⟩
  obtain ⟨t, ht⟩ : ∃ t : ByteArray, t = ⟨m.toArray⟩ := ⟨_, rfl⟩
  have htl : t.data.toList = m := by rw [ht]
  have hts : t.size = m.length := by rw [size_list, htl]
  have hmod : m.length % 64 = 0 := by rw [hm]; exact padL_mod _
  have hml : m.length ≤ 101000 := by rw [hm, padL_length, ← size_list]; have := zerosN_lt s.size; omega
  have HM := Lib.hid hm
  have HT : Hid ((⟨(padL s.data.toList).toArray⟩ : ByteArray) = t) := Lib.hid (by rw [ht, hm])
  have HTL := Lib.hid htl
  have ht1 : m.length ≤ t.size := by omega
  have ht2 : t.size ≤ m.length := by omega
  have HMO := Lib.hid hmod
  clear hm ht htl hts hmod
  go_enter Try.func12, Try.ntmps12
  go_wp2_with fail
  obtain ⟨w0, hw0⟩ : ∃ w0, w0 = (w.alloc (.cells (byteCells (List.replicate 32 0)).toArray 24)).alloc (.cells (u32Cells startL).toArray 40) := ⟨_, rfl⟩
  have eq0 : (byteCells (List.replicate 32 0)).toArray = #[.int .u8 0, .int .u8 0, .int .u8 0, .int .u8 0, .int .u8 0, .int .u8 0, .int .u8 0, .int .u8 0, .int .u8 0, .int .u8 0, .int .u8 0, .int .u8 0, .int .u8 0, .int .u8 0, .int .u8 0, .int .u8 0, .int .u8 0, .int .u8 0, .int .u8 0, .int .u8 0, .int .u8 0, .int .u8 0, .int .u8 0, .int .u8 0, .int .u8 0, .int .u8 0, .int .u8 0, .int .u8 0, .int .u8 0, .int .u8 0, .int .u8 0, .int .u8 0] := rfl
  have eq1 : (u32Cells startL).toArray = #[.int .u32 1779033703, .int .u32 3144134277, .int .u32 1013904242, .int .u32 2773480762, .int .u32 1359893119, .int .u32 2600822924, .int .u32 528734635, .int .u32 1541459225] := rfl
  have O0 : Hid (w0.heap[w.heap.size]? = some (.cells (byteCells (List.replicate 32 0)).toArray 24 (0, 0))) := Lib.hid (by rw [hw0]; exact heap_alloc2_old w _ _)
  have S0 : Hid (w0.heap[w.heap.size + 1]? = some (.cells (u32Cells startL).toArray 40 (0, 0))) := Lib.hid (by rw [hw0]; exact heap_alloc2_new w _ _)
  have K0 : Hid (Kp (fun _ => False) w w0) := Lib.hid (by rw [hw0]; exact (Kp.alloc _ w _).trans (Kp.alloc (fun _ => False) _ _) fun _ h => h.elim)
  rw [eq0, eq1] at hw0
  rw [← hw0]
  clear hw0 eq0 eq1
  refine (padded_any s w0 hs).mono ?_
  rintro e w1 ⟨rfl, q1⟩
  have O1 : Hid (w1.heap[w.heap.size]? = some (.cells (byteCells (List.replicate 32 0)).toArray 24 (0, 0))) := Lib.hid (q1.heap O0.out (fun h => h))
  have S1 : Hid (w1.heap[w.heap.size + 1]? = some (.cells (u32Cells startL).toArray 40 (0, 0))) := Lib.hid (q1.heap S0.out (fun h => h))
  have K1 : Hid (Kp (fun _ => False) w w1) := Lib.hid (K0.out.trans q1 fun _ h => h.elim)
  clear q1 O0 S0 K0
  rw [HT.out]
  have t1 : (t.size : Int) ≤ 101000 := by omega
  go_wp2_with fail
  go_loopw [5] (fun i wr => S1Rel w1 (w.heap.size + 1) m m.length i wr) (fun i _ => t.size - (intOf i).toNat)
  case atStart => exact ⟨0, rfl, by omega, S1.out, Kp.refl _ _⟩
  case round =>
    obtain ⟨k, rfl, hk, hrow, hkp⟩ := hrel
    have HR := Lib.hid hrow
    have HK := Lib.hid hkp
    clear hrow hkp
    by_cases h1 : 64 * k < m.length
    · have h2 : 64 * k + 64 ≤ m.length := by have := HMO.out; omega
      obtain ⟨s0, s1, s2, s3, s4, s5, s6, s7, hst⟩ := eight _ (foldB_length m k)
      have hr := HR.out
      rw [hst] at hr
      have HR2 := Lib.hid hr
      have c0 : wr.cell? ⟨w.heap.size + 1, 0, none⟩ = some (.int .u32 (s0 : Int)) := cell_of_row _ _ 0 _ _ _ hr
      have c1 : wr.cell? ⟨w.heap.size + 1, 1, none⟩ = some (.int .u32 (s1 : Int)) := cell_of_row _ _ 1 _ _ _ hr
      have c2 : wr.cell? ⟨w.heap.size + 1, 2, none⟩ = some (.int .u32 (s2 : Int)) := cell_of_row _ _ 2 _ _ _ hr
      have c3 : wr.cell? ⟨w.heap.size + 1, 3, none⟩ = some (.int .u32 (s3 : Int)) := cell_of_row _ _ 3 _ _ _ hr
      have c4 : wr.cell? ⟨w.heap.size + 1, 4, none⟩ = some (.int .u32 (s4 : Int)) := cell_of_row _ _ 4 _ _ _ hr
      have c5 : wr.cell? ⟨w.heap.size + 1, 5, none⟩ = some (.int .u32 (s5 : Int)) := cell_of_row _ _ 5 _ _ _ hr
      have c6 : wr.cell? ⟨w.heap.size + 1, 6, none⟩ = some (.int .u32 (s6 : Int)) := cell_of_row _ _ 6 _ _ _ hr
      have c7 : wr.cell? ⟨w.heap.size + 1, 7, none⟩ = some (.int .u32 (s7 : Int)) := cell_of_row _ _ 7 _ _ _ hr
      clear hr
      obtain ⟨n, hn⟩ : ∃ n : Nat, n = 64 * k := ⟨_, rfl⟩
      rw [← hn]
      have HN := Lib.hid hn
      have n1 : n + 64 ≤ t.size := by omega
      have n2 : (n : Int) + 64 ≤ (t.size : Int) := by omega
      have n3 : (n : Int) < (t.size : Int) := by omega
      have n4 : (n : Int) ≤ 101000 := by omega
      have hw64 : IntKind.i64.wrap ((n : Int) + 64) = (n : Int) + 64 := IntWalk.i64_in _ (by omega)
      have HS : Hid (foldB m (k + 1) = blockF [s0, s1, s2, s3, s4, s5, s6, s7] ((m.drop (64 * k)).take 64)) := Lib.hid (by rw [foldB, hst])
      have HE1 : Hid ((t.extract n (n + 64)).size = 64) := Lib.hid (by rw [ByteArray.size_extract]; omega)
      have HE2 : Hid ((t.extract n (n + 64)).data.toList = (m.drop (64 * k)).take 64) := Lib.hid (by rw [ba_extract, HTL.out, ← hn]; congr 1; omega)
      clear hst hn
      go_wp2_with fail
      go_region_with ((go_at_call 24; refine (block_at _ s0 s1 s2 s3 s4 s5 s6 s7 (t.extract n (n + 64)) ((m.drop (64 * k)).take 64) HE1.out HE2.out).mono ?_; rintro e w2 ⟨r0, r1, r2, r3, r4, r5, r6, r7, hr, rfl, hk2⟩; have RR := hk2.heap (show wr.drew.heap[w.heap.size + 1]? = _ from HR2.out) (fun h => h); have HRR := Lib.hid RR; have HK2 := Lib.hid hk2; have HF := Lib.hid hr; have d0 : w2.cell? ⟨w.heap.size + 1, 0, none⟩ = some (.int .u32 (s0 : Int)) := cell_of_row w2 (w.heap.size + 1) 0 _ _ _ RR; have d1 : w2.cell? ⟨w.heap.size + 1, 1, none⟩ = some (.int .u32 (s1 : Int)) := cell_of_row w2 (w.heap.size + 1) 1 _ _ _ RR; have d2 : w2.cell? ⟨w.heap.size + 1, 2, none⟩ = some (.int .u32 (s2 : Int)) := cell_of_row w2 (w.heap.size + 1) 2 _ _ _ RR; have d3 : w2.cell? ⟨w.heap.size + 1, 3, none⟩ = some (.int .u32 (s3 : Int)) := cell_of_row w2 (w.heap.size + 1) 3 _ _ _ RR; have d4 : w2.cell? ⟨w.heap.size + 1, 4, none⟩ = some (.int .u32 (s4 : Int)) := cell_of_row w2 (w.heap.size + 1) 4 _ _ _ RR; have d5 : w2.cell? ⟨w.heap.size + 1, 5, none⟩ = some (.int .u32 (s5 : Int)) := cell_of_row w2 (w.heap.size + 1) 5 _ _ _ RR; have d6 : w2.cell? ⟨w.heap.size + 1, 6, none⟩ = some (.int .u32 (s6 : Int)) := cell_of_row w2 (w.heap.size + 1) 6 _ _ _ RR; have d7 : w2.cell? ⟨w.heap.size + 1, 7, none⟩ = some (.int .u32 (s7 : Int)) := cell_of_row w2 (w.heap.size + 1) 7 _ _ _ RR; have ff := fun j => frozen_of_row w2 (w.heap.size + 1) j _ _ RR; clear RR hk2 hr))
      all_goals
        go_wp2_with fail
        go_roundw
        case rel =>
          refine ⟨k + 1, by rw [HN.out]; simp; omega, by omega, ?_, ((HK.out.trans (Kp.drew (fun _ => False) _) fun _ h => h.elim).trans HK2.out fun _ h => h.elim).trans (set8_kp _ _ _ _ _ _ _ _ _ _) fun k hk => .inl hk⟩
          rw [set8 HRR.out rfl, HS.out, HF.out]
          rfl
        case measure => simp [intOf]; omega
    · have hk2 : 64 * k = m.length := by omega
      obtain ⟨w4, rfl⟩ : ∃ w4 : World, w4 = wr := ⟨_, rfl⟩
      obtain ⟨F, hF⟩ : ∃ F, F = foldB m k := ⟨_, rfl⟩
      have hFl : F.length = 8 := by rw [hF]; exact foldB_length m k
      have hr := HR.out
      rw [← hF] at hr
      have R4 := Lib.hid hr
      have HH : Hid (hashOf s.data.toList = hashL F) := Lib.hid (by
        have e : m.length / 64 = k := by omega
        rw [hashOf, ← HM.out, e, hF])
      have O4 : Hid (w4.heap[w.heap.size]? = some (.cells (byteCells (List.replicate 32 0)).toArray 24 (0, 0))) := Lib.hid (HK.out.heap O1.out (by omega))
      have K4 : Hid (Kp (fun _ => False) w w4) := Lib.hid (K1.out.trans HK.out fun k hk => .inr (by omega))
      have hl4 : w.heap.size + 1 < w4.heap.size := (Array.getElem?_eq_some_iff.1 hr).1
      have HFL := Lib.hid hFl
      clear hF hr HR HK hFl
      go_wp2_with fail
      obtain ⟨w5, hw5⟩ : ∃ w5, w5 = w4.alloc (.cells (byteCells (List.replicate 32 0)).toArray 24) := ⟨_, rfl⟩
      have eq0 : (byteCells (List.replicate 32 0)).toArray = #[.int .u8 0, .int .u8 0, .int .u8 0, .int .u8 0, .int .u8 0, .int .u8 0, .int .u8 0, .int .u8 0, .int .u8 0, .int .u8 0, .int .u8 0, .int .u8 0, .int .u8 0, .int .u8 0, .int .u8 0, .int .u8 0, .int .u8 0, .int .u8 0, .int .u8 0, .int .u8 0, .int .u8 0, .int .u8 0, .int .u8 0, .int .u8 0, .int .u8 0, .int .u8 0, .int .u8 0, .int .u8 0, .int .u8 0, .int .u8 0, .int .u8 0, .int .u8 0] := rfl
      have P5 : Hid (w5.heap[w4.heap.size]? = some (.cells (byteCells (List.replicate 32 0)).toArray 24 (0, 0))) := Lib.hid (by rw [hw5]; exact heap_alloc_new w4 _)
      have K5 : Hid (Kp (fun _ => False) w4 w5) := Lib.hid (by rw [hw5]; exact Kp.alloc _ _ _)
      rw [eq0] at hw5
      rw [← hw5]
      clear hw5 eq0
      go_loopw [7] (fun i wr => S2Rel w5 w4.heap.size (hashL F) i wr) (fun i _ => 32 - (intOf i).toNat)
      case atStart => exact ⟨0, rfl, by omega, P5.out, Kp.refl _ _⟩
      case round =>
        obtain ⟨k, rfl, hk, hrow, hkp⟩ := hrel
        have HR := Lib.hid hrow
        have HK := Lib.hid hkp
        clear hrow hkp
        by_cases h3 : k < 32
        · have hHl : (hashL F).length = 32 := hashL_length F HFL.out
          have hrS : wr.heap[w.heap.size + 1]? = some (.cells (u32Cells F).toArray 40 (0, 0)) := HK.out.heap (K5.out.heap R4.out (fun h => h)) (by omega)
          obtain ⟨x, hx⟩ : ∃ x, F.getD (k / 4) 0 = x := ⟨_, rfl⟩
          have cx : wr.cell? ⟨w.heap.size + 1, k / 4, none⟩ = some (.int .u32 (x : Int)) := by rw [cell_of_row _ _ _ _ _ _ hrS, ← hx]; exact u32Cells_get F (k / 4) (by rw [HFL.out]; omega)
          have hcell : ∃ v, wr.cell? ⟨w4.heap.size, k, none⟩ = some v := by
            rw [cell_of_row _ _ _ _ _ _ HR.out]
            exact ⟨_, rowB_some _ k (by simp; omega)⟩
          obtain ⟨v0, hc0⟩ := hcell
          have hf0 := frozen_of_row wr w4.heap.size k _ _ HR.out
          have HX := Lib.hid hx
          have k32 : (k : Int) < 32 := by omega
          have k0 : (0 : Int) ≤ k := by omega
          clear hx hrS hHl
          have k32n : (k : Int) / 4 < 8 := by omega
          go_wp2_with fail
          go_roundw
          case rel =>
            have e := hashL_get F HFL.out k h3
            rw [HX.out] at e
            have hv : (((hashL F).getD k 0).toNat : Int) = (x : Int) / 2 ^ (8 * (3 - k % 4)) % 256 := by rw [e]; simp
            rw [← hv]
            exact s2rel_step HR.out HK.out h3 (hashL_length F HFL.out)
          case measure => simp [intOf]; omega
        · obtain rfl : k = 32 := by omega
          have hHl : (hashL F).length = 32 := hashL_length F HFL.out
          have hrP := HR.out
          rw [List.take_of_length_le (by omega)] at hrP
          obtain ⟨H, hH⟩ : ∃ H, H = hashL F := ⟨_, rfl⟩
          simp only [Nat.sub_self, List.replicate_zero, List.append_nil] at hrP
          rw [← hH] at hrP hHl
          have RP : Hid (wr.heap[w4.heap.size]? = some (.cells (byteCells H).toArray 24 (0, 0))) := Lib.hid hrP
          have RO : Hid (wr.heap[w.heap.size]? = some (.cells (byteCells (List.replicate 32 0)).toArray 24 (0, 0))) := Lib.hid (HK.out.heap (K5.out.heap O4.out (fun h => h)) (by omega))
          have HI : Hid ((Try.prog.info? 24).map (·.size) = some (byteCells H).toArray.size) := Lib.hid (info24.trans (by simp [byteCells, hHl]))
          have HZ : Hid ((byteCells (List.replicate 32 0)).toArray.size = (byteCells H).toArray.size) := Lib.hid (by simp [byteCells, hHl])
          have HHE := Lib.hid (HH.out.trans hH.symm)
          clear hH hrP hHl HR
          go_wp2_with (first
            | (refine wpList_load_row rfl 24 (.tmp 6) rfl w4.heap.size rfl 24 _ (0, 0) _ RP.out Try.underlying24 rfl HI.out ?_)
            | (refine wpList_store_row rfl 24 (.tmp 2) (.tmp 40) rfl w.heap.size (byteCells H).toArray rfl rfl 24 _ RO.out HI.out HZ.out (oneU8 _) ?_))
          refine bodyPost_ret (v := .agg (byteCells H).toArray) (results_cell_row rfl _ _ w.heap.size 24 _ (0, 0) _ rfl (setRow_heap _ _ _ _ _ _ RO.out) Try.underlying24 rfl HI.out) rfl ⟨by rw [HHE.out], ?_⟩
          exact (((K4.out.trans K5.out fun _ h => h.elim).trans HK.out fun k hk => .inr (by omega))).trans (kp_setRow (F := fun k => k = w.heap.size) _ _ _ rfl) fun k hk => .inr (by omega)

end Go.Proofs.Ytgkdjcednebgoaa
