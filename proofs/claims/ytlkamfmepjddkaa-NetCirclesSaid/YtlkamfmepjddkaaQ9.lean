/- Walk: NetKinds. -/
import Derived.Test.YtlkamfmepjddkaaQ8
import Derived.Deep.DeepCutAuto
set_option linter.unusedSimpArgs false
set_option linter.unusedVariables false
namespace Go.Proofs.Ytlkamfmepjddkaa
open Go.RowKit Go.Lib Go.Maps

theorem askS_len (s : NS) (now mir : Int) (h : List UInt8) : (askS s now mir h).replies.length ≤ s.replies.length + 2 := by
  unfold askS
  split
  · exact Nat.le_add_right _ _
  · split
    · exact Nat.le_add_right _ _
    · simp only [List.length_append, List.length_map]
      have := bytesS_len s.packets s.old (behS ‹_› (s.asked.getD mir.toNat 0)) h
      omega
theorem nextS_len (s : NS) : (nextS s).replies.length = s.replies.length - 1 := by
  unfold nextS
  by_cases h : s.replies = []
  · rw [h]; rfl
  · obtain ⟨_, _, hk, _⟩ := kIdx_spec s.replies h
    simp only [List.length_eraseIdx, hk, if_true]

theorem heap_alloc3 (w : World) (o p q : Obj) : (((w.alloc o).alloc p).alloc q).heap[w.heap.size]? = some o ∧ (((w.alloc o).alloc p).alloc q).heap[w.heap.size + 1]? = some p ∧ (((w.alloc o).alloc p).alloc q).heap[w.heap.size + 1 + 1]? = some q := by
  have e1 : ((w.alloc o).alloc p).heap.size = w.heap.size + 2 := by simp
  refine ⟨?_, ?_, ?_⟩
  · rw [Below.heap_alloc _ _ _ (by omega)]; exact heap_alloc2_old w o p
  · rw [Below.heap_alloc _ _ _ (by omega)]; exact heap_alloc2_new w o p
  · have := heap_alloc_new ((w.alloc o).alloc p) q
    rwa [e1] at this
theorem Kp.alloc3 (w : World) (o p q : Obj) : Kp (fun _ => False) w (((w.alloc o).alloc p).alloc q) := ((Kp.alloc _ w o).trans (Kp.alloc (fun _ => False) _ p) fun _ h => h.elim).trans (Kp.alloc (fun _ => False) _ q) fun _ h => h.elim
theorem heap_setCell_size (w : World) (a : Addr) (v : Value) : (w.setCell a v).heap.size = w.heap.size := by simp [World.setCell]

def KiRel (W : World) (x lim : Nat) (q : Nat → Nat) (i : Value) (wr : World) : Prop :=
  ∃ (k : Nat) (V : NV) (R : RV) (s : NS), i = .int .i64 (k : Int) ∧ k ≤ lim ∧ LawAt W wr x V R s ∧ s.n ≤ 3 ∧ s.replies.length ≤ q k ∧ (s.n ≤ k ∨ lim = 7)

set_option maxRecDepth 100000 in
set_option maxHeartbeats 4000000 in
theorem kinds_walk (W : World) (b : Bh) (sp1 sp2 : Option Addr) (c1 c2 : Nat) (hash : Int) (LP LO : List ByteArray) (h1 : Src W 1 sp1 LP.length (strV LP)) (h2 : Src W 1 sp2 LO.length (strV LO)) (z1 : ∀ s ∈ LP, s.size ≤ 9223372036854775807) (z2 : ∀ s ∈ LO, s.size ≤ 9223372036854775807) :
    Calls Try.prog 5 #[.agg #[.int .i64 b.k, .int .i64 b.d, .int .i64 b.n], .agg #[.slice sp1 LP.length c1, .slice sp2 LO.length c2], .int .i64 hash] W (LawPost W) := by
  obtain ⟨k, d, m⟩ := b
  dsimp only
  obtain ⟨n1, hn1⟩ : ∃ n, n = LP.length := ⟨_, rfl⟩
  obtain ⟨n2, hn2⟩ : ∃ n, n = LO.length := ⟨_, rfl⟩
  have H1 := Lib.hid h1
  have H2 := Lib.hid h2
  have Z1 := Lib.hid z1
  have Z2 := Lib.hid z2
  rw [← hn1, ← hn2]
  have HN1 := Lib.hid hn1
  have HN2 := Lib.hid hn2
  obtain ⟨dd, hdd⟩ : ∃ x, x = d.tmod 1000 := ⟨_, rfl⟩
  have HDD := Lib.hid hdd
  obtain ⟨w0, hw0⟩ : ∃ w0, w0 = (W.alloc (.cells #[.int .i64 k, .int .i64 d, .int .i64 m] 42)).alloc (.cells #[.slice sp1 n1 c1, .slice sp2 n2 c2] 57) := ⟨_, rfl⟩
  have k0 : Kp (fun _ => False) W w0 := by rw [hw0]; exact (Kp.alloc _ _ _).trans (Kp.alloc (fun _ => False) _ _) fun _ h => h.elim
  have hA : w0.heap[W.heap.size]? = some (.cells #[.int .i64 k, .int .i64 d, .int .i64 m] 42 (0, 0)) := by rw [hw0]; exact heap_alloc2_old W _ _
  have hB : w0.heap[W.heap.size + 1]? = some (.cells #[.slice sp1 n1 c1, .slice sp2 n2 c2] 57 (0, 0)) := by rw [hw0]; exact heap_alloc2_new W _ _
  have K0 := Lib.hid k0
  have HA := Lib.hid hA
  have HB := Lib.hid hB
  clear h1 h2 z1 z2 hn1 hn2 hdd k0 hA hB
  go_enter Try.func5, Try.ntmps5
  go_wp2_with fail
  rw [← hw0]
  clear hw0
  refine (sanity_any w0).mono ?_
  rintro e w1 ⟨rfl, k1⟩
  have K1 : Hid (Kp (fun _ => False) W w1) := Lib.hid (K0.out.trans k1 fun _ h => h.elim)
  have hA1 := k1.heap HA.out (fun h => h)
  have hB1 := k1.heap HB.out (fun h => h)
  have a0 : w1.cell? ⟨W.heap.size, 0, none⟩ = some (.int .i64 k) := cell_of_row _ _ 0 _ _ _ hA1
  have a1 : w1.cell? ⟨W.heap.size, 1, none⟩ = some (.int .i64 d) := cell_of_row _ _ 1 _ _ _ hA1
  have a2 : w1.cell? ⟨W.heap.size, 2, none⟩ = some (.int .i64 m) := cell_of_row _ _ 2 _ _ _ hA1
  have af := frozen_of_row _ W.heap.size 1 _ _ hA1
  have b0 : w1.cell? ⟨W.heap.size + 1, 0, none⟩ = some (.slice sp1 n1 c1) := cell_of_row _ _ 0 _ _ _ hB1
  have b1 : w1.cell? ⟨W.heap.size + 1, 1, none⟩ = some (.slice sp2 n2 c2) := cell_of_row _ _ 1 _ _ _ hB1
  have lA : W.heap.size + 1 < w1.heap.size := (Array.getElem?_eq_some_iff.1 hB1).1
  clear k1 hA1 hB1
  go_upto_region 4 with (fail)
  rw [← HDD.out]
  obtain ⟨wa, hwa⟩ : ∃ wa, wa = w1.setCell ⟨W.heap.size, 1, none⟩ (.int .i64 dd) := ⟨_, rfl⟩
  rw [← hwa]
  have ka : Kp (fun q => q = W.heap.size) w1 wa := by rw [hwa]; exact Kp.setCell w1 (a := ⟨W.heap.size, 1, none⟩) _ rfl
  have sa : wa.heap.size = w1.heap.size := by rw [hwa]; exact heap_setCell_size _ _ _
  obtain ⟨g42, hg42⟩ : ∃ g, g = w1.heap.size := ⟨_, rfl⟩
  rw [← hg42]
  obtain ⟨wS, hwS⟩ : ∃ wS, wS = ((wa.alloc (.cells #[.int .i64 k, .int .i64 dd, .int .i64 m] 42)).alloc (.cells #[.slice (some ⟨g42, 0, none⟩) 1 1] 40)).alloc (.cells #[.slice sp1 n1 c1, .slice sp2 n2 c2, .slice (some ⟨g42 + 1, 0, none⟩) 1 1] 25) := ⟨_, rfl⟩
  rw [← hwS]
  have h3 := heap_alloc3 wa (.cells #[.int .i64 k, .int .i64 dd, .int .i64 m] 42) (.cells #[.slice (some ⟨g42, 0, none⟩) 1 1] 40) (.cells #[.slice sp1 n1 c1, .slice sp2 n2 c2, .slice (some ⟨g42 + 1, 0, none⟩) 1 1] 25)
  rw [← hwS, sa, ← hg42] at h3
  have kS : Kp (fun q => q = W.heap.size) w1 wS := by rw [hwS]; exact ka.trans (Kp.alloc3 wa _ _ _) fun q h => h.elim
  have KS1 : Hid (Kp (fun _ => False) W wS) := Lib.hid ((K1.out.zero.trans kS fun q h => .inl h : Kp (fun q => q = W.heap.size) W wS).mono fun q h => .inr (by omega))
  have WA : Hid (WArg wS (.agg #[.slice sp1 n1 c1, .slice sp2 n2 c2, .slice (some ⟨g42 + 1, 0, none⟩) 1 1]) LP LO [[⟨k, dd, m⟩]]) := Lib.hid (by
    refine ⟨⟨sp1, c1, sp2, c2, some ⟨g42 + 1, 0, none⟩, 1, [.slice (some ⟨g42, 0, none⟩) 1 1], by rw [HN1.out, HN2.out]; rfl, H1.out.keep0 KS1.out, H2.out.keep0 KS1.out, ⟨⟨rfl, fun _ => ⟨g42 + 1, 0, rfl, range_of_heap h3.2.1⟩⟩, fun i m' l hm hl => ?_⟩⟩, Z1.out, Z2.out, fun l hl => ?_⟩
    · match i, hm, hl with
      | 0, hm, hl =>
        simp at hm hl
        subst hm hl
        exact ⟨_, 1, rfl, rfl, fun _ => ⟨g42, 0, rfl, range_of_heap h3.1⟩⟩
      | i + 1, hm, _ => simp at hm
    · simp at hl
      subst hl
      simp)
  have ar := Lib.hid (range_of_heap (cs := [.slice sp1 n1 c1, .slice sp2 n2 c2, .slice (some ⟨g42 + 1, 0, none⟩) 1 1]) h3.2.2)
  have o1 : (Value.slice sp1 n1 c1).oneCell' = true := rfl
  clear hwa hwS h3 kS ka sa hg42 a0 a1 a2 af b0 b1 lA
  go_wp2_with (refine wpList_load_mid rfl 25 (.tmp 8) rfl (g42 + 1 + 1) 0 rfl _ _ ar.out Try.underlying25 rfl (by kernel_rfl) ?_)
  refine (begin_any wS _ LP LO [[⟨k, dd, m⟩]] WA.out).mono ?_
  rintro e w2 ⟨V, R, rfl, hd, k2⟩
  have D2 := Lib.hid (hd.down KS1.out.size)
  have K2 : Hid (Kp (fun _ => False) W w2) := Lib.hid (KS1.out.trans k2 fun _ h => h.elim)
  clear hd k2
  obtain ⟨st, hst⟩ : ∃ st, st = initS (pkL LP) (pkL LO) (scL [[⟨k, dd, m⟩]]) := ⟨_, rfl⟩
  rw [← hst] at D2
  have hs0 : st.n = 0 := by rw [hst]; rfl
  have hsr : st.replies.length = 0 := by rw [hst]; rfl
  have HS0 := Lib.hid hs0
  have HSR := Lib.hid hsr
  clear hst hs0 hsr
  dsimp only
  go_wp2_with (first
    | (refine wpList_alloc31 rfl rfl ?_; intro x w3 z3 hz3 hg3 eg3 sg3 k3; have HZ3 := Lib.hid hz3; have HG3 := Lib.hid hg3; have EG3 := Lib.hid eg3; have K3 := Lib.hid k3; clear hz3 hg3 eg3 sg3 k3)
    | (refine wpList_store31 rfl (.tmp 9) (.tmp 28) rfl x V R rfl rfl z3 HG3.out HZ3.out ?_; intro w4 hg4 k4; have LA := Lib.hid (law_start D2.out K2.out K3.out EG3.out k4 hg4); have c0 := LA.out.c0; clear hg4 k4))
  clear c0
  go_loopw [10] (fun i wr => KiRel W x 3 (fun k => 2 * k) i wr) (fun i _ => 3 - (Go.RowKit.intOf i).toNat)
  case atStart => exact ⟨0, V, R, st, rfl, Nat.zero_le _, LA.out, by rw [HS0.out]; exact Nat.zero_le _, by rw [HSR.out]; exact Nat.zero_le _, .inl (by rw [HS0.out]; exact Nat.zero_le _)⟩
  case round =>
    obtain ⟨j, V1, R1, s1, rfl, hj, hla, hsn, hrl, hnj⟩ := hrel
    dsimp only at hrl
    have HL := Lib.hid hla
    have c0 := hla.c0
    have c1 := hla.c1
    clear hla
    by_cases hlt : j < 3
    · have j0 : (0 : Int) ≤ (j : Int) := by omega
      have j1 : (j : Int) < 3 := by omega
      go_wp2_with fail
      refine (do_ask HL.out.d 0 (j : Int) 1 hash (by decide) (by omega)).mono ?_
      rintro e w5 ⟨rfl, vr5, vr6, hd5, k5⟩
      have L5 := Lib.hid (HL.out.act hd5 k5)
      clear hd5 k5 c0 c1
      go_wp2_with fail
      go_roundw
      case rel => exact ⟨j + 1, _, _, _, by simp, by omega, L5.out, by rw [askS_n]; omega, by have := askS_len s1 ((j : Int).tmod 100000) (mirK 1) (hshK hash); show _ ≤ 2 * (j + 1); omega, by rw [askS_n]; omega⟩
      case measure => simp [Go.RowKit.intOf]; omega
    · have h33 : j = 3 := by omega
      have hji : (j : Int) = 3 := by omega
      rw [hji]
      clear c0 c1 hji
      go_wp2_with fail
      go_loopw [12] (fun i wr => KiRel W x 7 (fun k => 6 - k) i wr) (fun i _ => 7 - (Go.RowKit.intOf i).toNat)
      case atStart => exact ⟨0, V1, R1, s1, rfl, Nat.zero_le _, HL.out, hsn, by show _ ≤ 6 - 0; omega, by omega⟩
      case round =>
        obtain ⟨j, V2, R2, s2, rfl, hj, hla, hsn2, hrl2, _⟩ := hrel
        dsimp only at hrl2
        have HL2 := Lib.hid hla
        have c0 := hla.c0
        have c1 := hla.c1
        clear hla
        by_cases hlt : j < 7
        · have j0 : (0 : Int) ≤ (j : Int) := by omega
          have j1 : (j : Int) < 7 := by omega
          go_wp2_with fail
          refine (do_next HL2.out.d 5 0 0 0 (by decide)).mono ?_
          rintro e w5 ⟨rfl, vr5, vr6, hd5, k5⟩
          have L5 := Lib.hid (HL2.out.act hd5 k5)
          clear hd5 k5 c0 c1
          go_wp2_with fail
          go_roundw
          case rel => exact ⟨j + 1, _, _, _, by simp, by omega, L5.out, hsn2, by rw [nextS_len]; show _ ≤ 6 - (j + 1); omega, by have : (nextS s2).n = s2.n := rfl; omega⟩
          case measure => simp [Go.RowKit.intOf]; omega
        · have h77 : j = 7 := by omega
          have hz : ((s2.replies.length : Nat) : Int) = 0 := by omega
          have HZ := Lib.hid hz
          have hji : (j : Int) = 7 := by omega
          rw [hji]
          clear hz c1 hji
          go_wp2_with fail
          refine (waiting_at HL2.out.d.n 0 HZ.out).mono ?_
          rintro e w' ⟨rfl, rfl⟩
          dsimp only
          go_wp2_with fail
          go_ret
          exact ⟨rfl, HL2.out.k⟩

end Go.Proofs.Ytlkamfmepjddkaa
