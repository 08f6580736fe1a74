/- Walk: Sum. -/
import Derived.Test.YtgkdjcednebgoaaX9
namespace Go.Proofs.Ytgkdjcednebgoaa
open Go.RowKit Go.Lib Go.Shelf
attribute [local go_sem] Oper.semAt_some

theorem OwnM.form {w : World} {B : Nat} {v : Value} {l : List UInt8} (h : OwnM w B v l) : ∃ g cap n : Nat, v = .slice (some ⟨g, 0, none⟩) n cap ∧ n = l.length ∧ n ≤ cap ∧ B ≤ g ∧ cap ≤ 9223372036854775807 := by
  obtain ⟨g, cap, cur, fr, rfl, hB, hg, _, hn, hm, _⟩ := h
  exact ⟨g, cap, _, rfl, rfl, hn, hB, by simpa [maxLen] using hm⟩

theorem OwnM.row {w : World} {B g n cap : Nat} {l : List UInt8} (h : OwnM w B (.slice (some ⟨g, 0, none⟩) n cap) l) : Bs w g 0 l ∧ ∃ cur fr, w.heap[g]? = some (.cells cur 5 fr) := by
  obtain ⟨g', cap', cur, fr, he, _, hg, _, hn, _, hs, ht⟩ := h
  cases he
  refine ⟨fun j hj => ?_, cur, fr, hg⟩
  have hj2 : j < (byteCells l).length := by rw [byteCells_length]; exact hj
  have : (byteCells l)[j]? = cur.toList[j]? := by rw [← ht, List.getElem?_take_of_lt hj]
  rw [Nat.zero_add, cell_of_row w g j cur 5 fr hg, ← Array.getElem?_toList, ← this]
  simp [byteCells, hj, byteN, List.getD]

theorem OwnM.down {w : World} {B B' : Nat} {v : Value} {l : List UInt8} (h : OwnM w B v l) (hB : B' ≤ B) : OwnM w B' v l := by
  obtain ⟨g, cap, cur, fr, e, hb, rest⟩ := h
  exact ⟨g, cap, cur, fr, e, Nat.le_trans hB hb, rest⟩

theorem wpList_bytes_of {w : World} {ops : Array Oper} {rest : List Oper} {o : Oper} {a : Act} {Q : Exit → Act → World → Prop} (hgd : o.guard = none) (x : Operand) (ho : o.op = .convert 9 33 x)
    (s : ByteArray) (hx : a.eval x = .string s) (hs : s.size ≤ 1000000) (B : Nat) (hB : B ≤ w.heap.size)
    (h : ∀ v w', OwnM w' B v s.data.toList → Kp (fun _ => False) w w' → wpList Try.prog ops Q rest (a.put o.dst v) w') : wpList Try.prog ops Q (o :: rest) a w := by
  refine wpList_plain hgd fun K hK => ?_
  have hr := Go.Lib.run_convert_string_bytes (P := Try.prog) w 9 33 5 s Try.underlying9 Try.underlying33 Try.underlying5
  unfold Oper.wp
  simp only [execOp, ho, hx, Sem.run_bind, Sem.run_pure]
  rw [hr]
  exact hK _ _ (h _ _ ((OwnM.made w s hs).down hB) (bytesWorld_kp w s))

theorem cells_new (w : World) (ns : List UInt8) : ∀ j u, (byteCells ns)[j]? = some u → (w.alloc (.cells (byteCells ns).toArray 5)).cell? ((⟨w.heap.size, 0, none⟩ : Addr).add j) = some u := by
  intro j u hu
  have hadd : (⟨w.heap.size, 0, none⟩ : Addr).add j = ⟨w.heap.size, j, none⟩ := by unfold Addr.add; split <;> simp_all
  rw [hadd, cell_of_row _ _ _ _ _ _ (heap_alloc_new w _)]
  simpa using hu

theorem bytes_at (x : Int) (n : Nat) (hx : x = (n : Int)) (w : World) : Calls Try.prog 19 #[.int .u32 x] w fun e w' => e = .returned (.slice (some ⟨w.heap.size, 0, none⟩) 4 4) ∧ w' = w.alloc (.cells (byteCells (be4 n)).toArray 5) := by
  subst hx
  exact bytes_any n w

def chunkL (m : List UInt8) (N x : Nat) : List UInt8 := (m.drop (64 * (x % N))).take 64
def foldX (m : List UInt8) (N : Nat) (pre : List Nat) : List Nat := pre.foldl (fun st x => blockF st (chunkL m N x)) startL

theorem foldX_range (m : List UInt8) (N : Nat) : ∀ k, k ≤ N → foldX m N (List.range k) = foldB m k := by
  intro k
  induction k with
  | zero => intro _; rfl
  | succ k ih =>
    intro hk
    rw [List.range_succ, foldX, List.foldl_append, foldB, ← ih (by omega)]
    show blockF (foldX m N (List.range k)) (chunkL m N k) = _
    rw [chunkL, Nat.mod_eq_of_lt (by omega)]

theorem foldX_length (m : List UInt8) (N : Nat) (pre : List Nat) : (foldX m N pre).length = 8 := by
  have : ∀ (pre : List Nat) (st : List Nat), st.length = 8 → (pre.foldl (fun st x => blockF st (chunkL m N x)) st).length = 8 := by
    intro pre
    induction pre with
    | nil => intro st h; exact h
    | cons x pre ih => intro st h; exact ih _ (blockF_length _ _ h)
  exact this pre startL rfl

theorem ktr {G : Nat → Prop} {a b c : World} (h : Kp G a b) (k : Kp G b c) : Kp G a c := h.trans k fun _ h => .inl h

/-- The hash's row, four bytes a round. -/
def C3Rel (w : World) (g : Nat) (H : List UInt8) (i : Value) (wr : World) : Prop :=
  ∃ k : Nat, i = .int .i64 (k : Nat) ∧ k ≤ 8 ∧ wr.heap[g]? = some (.cells (byteCells (H.take (4 * k) ++ List.replicate (32 - 4 * k) 0)).toArray 24 (0, 0)) ∧ Below g w wr

theorem byteCells_one (l : List UInt8) : ∀ v ∈ byteCells l, v.oneCell' = true := by
  intro v hv
  obtain ⟨b, _, rfl⟩ := List.mem_map.1 hv
  rfl

theorem hash_take (s0 s1 s2 s3 s4 s5 s6 s7 k : Nat) (h : k < 8) : (hashL [s0, s1, s2, s3, s4, s5, s6, s7]).take (4 * (k + 1)) = (hashL [s0, s1, s2, s3, s4, s5, s6, s7]).take (4 * k) ++ be4 ([s0, s1, s2, s3, s4, s5, s6, s7].getD k 0) := by
  have hk8 : k = 0 ∨ k = 1 ∨ k = 2 ∨ k = 3 ∨ k = 4 ∨ k = 5 ∨ k = 6 ∨ k = 7 := by omega
  rcases hk8 with rfl | rfl | rfl | rfl | rfl | rfl | rfl | rfl <;> rfl

theorem c3_splice (H : List UInt8) (k y : Nat) (hk : k < 8) (hl : H.length = 32) (ht : H.take (4 * (k + 1)) = H.take (4 * k) ++ be4 y) :
    splice (byteCells (H.take (4 * k) ++ List.replicate (32 - 4 * k) 0)) (4 * k) (byteCells (be4 y)) = byteCells (H.take (4 * (k + 1)) ++ List.replicate (32 - 4 * (k + 1)) 0) := by
  rw [← byteCells_splice, ht]
  congr 1
  have hT : (H.take (4 * k)).length = 4 * k := by rw [List.length_take]; omega
  have hb : (be4 y).length = 4 := rfl
  simp only [splice]
  have hd : (H.take (4 * k) ++ List.replicate (32 - 4 * k) (0 : UInt8)).drop (4 * k + (be4 y).length) = List.replicate (32 - 4 * (k + 1)) 0 := by
    rw [List.drop_append, hT, List.drop_of_length_le (by omega), List.drop_replicate, hb, List.nil_append]
    congr 1
    omega
  rw [List.take_left' hT, hd, List.append_assoc]

theorem ks_t {S n₀ : Nat} {A B C : World} (h : KS S n₀ A B) (k : KS S n₀ B C) : KS S n₀ A C := h.trans k fun _ h => .inl h
theorem ks_b {S n₀ : Nat} {W : World} {l : Nat} {o o' : Obj} (h : n₀ ≤ l) (_ : W.heap[l]? = some o) : KS S n₀ W (W.putObj l o') :=
  Kp.grown (grownBy_putObj' W l o') fun k e => by cases e; exact .inr h

/-- Between two rounds: the state's row, and what was kept. -/
def SumI (m : List UInt8) (N S : Nat) (w0 : World) (pre : List Nat) (W : World) : Prop :=
  W.heap[S]? = some (.cells (u32Cells (foldX m N pre)).toArray 40 (0, 0)) ∧ Kp (fun k => k = S) w0 W

theorem sumI_own {m : List UInt8} {N S : Nat} {w0 : World} (hS : S < w0.heap.size) : OwnFrom w0.heap.size (SumI m N S w0) := by
  rintro pre W W' row ⟨h1, h2⟩ hg hr
  refine ⟨?_, h2.trans (Kp.grown (F := fun k => row = some k) hg fun k e => e) fun k e => .inr (hr k e).1⟩
  rw [hg.block S (Array.getElem?_eq_some_iff.1 h1).1 (fun e => by have := (hr S e.symm).1; omega)]
  exact h1

set_option maxRecDepth 100000 in
set_option maxHeartbeats 4000000 in
theorem sum_any (s : ByteArray) (w : World) (hs : s.size ≤ 100000) : Calls Try.prog 11 #[.string s] w fun e w' => e = .returned (.agg (byteCells (hashOf s.data.toList)).toArray) ∧ Kp (fun _ => False) w w' := by
  have hsi : (s.size : Int) ≤ 100000 := by omega
  have hsl : s.data.toList.length ≤ 100000 := by rw [← size_list]; exact hs
  obtain ⟨Z, hZ⟩ : ∃ Z, Z = zerosN s.size := ⟨_, rfl⟩
  have hZ64 : Z < 64 := by rw [hZ]; exact zerosN_lt _
  refine (callsIn_wide (n := 3)).1 ?_
  refine callsIn_of_wp_marks Try.func11 rfl trivial ?_ rfl
  simp only [Try.ntmps11, List.size_toArray, List.length_cons, List.length_nil, Nat.reduceAdd, Nat.reduceSub, Array.replicate_succ, Array.replicate_zero, List.push_toArray, List.append_toArray, List.nil_append, List.cons_append]
  refine wpIn_wide.2 ?_
  have hn80 : (s.data.toList ++ [0x80]).length = s.size + 1 := by rw [List.length_append, ← size_list]; rfl
  have HN80 := Lib.hid hn80
  have HZ := Lib.hid hZ
  clear hn80 hZ
  go_wp2_with (first
    | (refine wpList_bytes_of rfl (.tmp 10) rfl s rfl (by omega) (w.heap.size + 1) (by simp) ?_; intro v1 w1 o1 q1; have O1 := Lib.hid o1; have Q1 := Lib.hid q1; have z1 : w.heap.size + 1 ≤ w1.heap.size := (by have := q1.size; simpa using this); clear o1 q1)
    | (at_builtin; refine wpList_append_M rfl (.tmp 11) (.tmp 12) rfl (w.heap.size + 1) v1 s.data.toList [0x80] rfl (O1.out.keep (Kp.alloc (fun _ => False) w1 _) (fun _ _ h => h)) ⟨w1.heap.size, 0, none⟩ 1 1 rfl rfl (cells_new w1 [0x80]) (by simp only [List.length_cons, List.length_nil]; omega) (by simp; omega) ?_; intro v2 w2 o2 q2; obtain ⟨g2, c2, n2, rfl, hn2, hc2, hb2, hm2⟩ := o2.form; have O2 := Lib.hid o2; have Q2 := Lib.hid q2; have z2 : w.heap.size + 1 ≤ w2.heap.size := (by have := q2.size; simp at this; omega); have e2 : n2 ≤ s.size + 1 := (by rw [hn2, HN80.out]; exact Nat.le_refl _); have e3 : s.size + 1 ≤ n2 := (by rw [hn2, HN80.out]; exact Nat.le_refl _); clear o2 q2 hn2; have HZV : Hid (Value.int .i64 ((120 - (n2 : Int) % 64) % 64) = Value.int .i64 (Z : Int)) := Lib.hid (by congr 1; rw [HZ.out]; unfold zerosN; omega); have hzp : 0 ≤ 120 - (n2 : Int) % 64 := (by omega); have hzi : (n2 : Int) ≤ 100001 := (by omega))
    | (at_builtin; refine wpList_append_zeros rfl (.tmp 14) (.tmp 19) rfl (w.heap.size + 1) (.slice (some ⟨g2, 0, none⟩) n2 c2) (s.data.toList ++ [0x80]) rfl O2.out Z HZV.out (by rw [HN80.out]; omega) (by omega) ?_; intro v3 w3 o3 q3; have O3 := Lib.hid o3; have Q3 := Lib.hid q3; have z3 : w.heap.size + 1 ≤ w3.heap.size := (by have := q3.size; omega); clear o3 q3 hzp))
  obtain ⟨hi, hhi⟩ : ∃ hi : Nat, hi = s.size * 8 / 4294967296 := ⟨_, rfl⟩
  obtain ⟨lo, hlo⟩ : ∃ lo : Nat, lo = s.size * 8 := ⟨_, rfl⟩
  have HHI := Lib.hid hhi
  have HLO := Lib.hid hlo
  have eZ : (s.data.toList ++ [0x80] ++ List.replicate Z 0).length = s.size + 1 + Z := by rw [List.length_append, HN80.out]; simp
  have EZ := Lib.hid eZ
  clear hhi hlo eZ
  refine (bytes_at _ hi (by rw [HHI.out]; rfl) _).mono ?_
  rintro e w4 ⟨rfl, e4⟩
  have C4 := Lib.hid (e4 ▸ cells_new w3 (be4 hi))
  have K4 : Hid (Kp (fun _ => False) w3 w4) := Lib.hid (by rw [e4]; exact Kp.alloc _ _ _)
  have z4 := K4.out.size
  clear e4
  go_wp2_with (at_builtin; refine wpList_append_M rfl (.tmp 25) (.tmp 29) rfl (w.heap.size + 1) v3 (s.data.toList ++ [0x80] ++ List.replicate Z 0) (be4 hi) rfl (O3.out.keep K4.out (fun _ _ h => h)) ⟨w3.heap.size, 0, none⟩ 4 4 rfl rfl C4.out (by rw [EZ.out]; simp [be4]; omega) (by omega) ?_; intro v5 w5 o5 q5; have O5 := Lib.hid o5; have Q5 := Lib.hid q5; have z5 : w.heap.size + 1 ≤ w5.heap.size := (by have := q5.size; omega); clear o5 q5)
  refine (bytes_at _ lo (by rw [HLO.out]; rfl) _).mono ?_
  rintro e w6 ⟨rfl, e6⟩
  have C6 := Lib.hid (e6 ▸ cells_new w5 (be4 lo))
  have K6 : Hid (Kp (fun _ => False) w5 w6) := Lib.hid (by rw [e6]; exact Kp.alloc _ _ _)
  have z6 := K6.out.size
  clear e6
  obtain ⟨m, hm⟩ : ∃ m, m = padL s.data.toList := ⟨_, rfl⟩
  go_wp2_with (at_builtin; refine wpList_append_M rfl (.tmp 30) (.tmp 33) rfl (w.heap.size + 1) v5 (s.data.toList ++ [0x80] ++ List.replicate Z 0 ++ be4 hi) (be4 lo) rfl (O5.out.keep K6.out (fun _ _ h => h)) ⟨w5.heap.size, 0, none⟩ 4 4 rfl rfl C6.out (by rw [List.length_append, EZ.out]; simp [be4]; omega) (by omega) ?_; intro v7 w7 o7 q7; have O7 := Lib.hid o7; have Q7 := Lib.hid q7; have z7 : w.heap.size + 1 ≤ w7.heap.size := (by have := q7.size; omega); clear o7 q7)
  have EM : Hid (s.data.toList ++ [0x80] ++ List.replicate Z 0 ++ be4 hi ++ be4 lo = m) := Lib.hid (by rw [hm, padL, be8, HZ.out, HHI.out, HLO.out, ← size_list]; simp [List.append_assoc])
  have HM := Lib.hid hm
  have hmod : m.length % 64 = 0 := by rw [hm]; exact padL_mod _
  have hml : m.length ≤ 101000 := by rw [hm, padL_length, ← size_list]; have := zerosN_lt s.size; omega
  have hml2 : 64 ≤ m.length := by have := padL_length s.data.toList; rw [← hm] at this; omega
  obtain ⟨N, hN⟩ : ∃ N, m.length = 64 * N := ⟨m.length / 64, by omega⟩
  have o7 := O7.out
  rw [EM.out] at o7
  obtain ⟨g, cap, n, rfl, hn, hc, hbg, hcm⟩ := o7.form
  rw [hN] at hn
  subst hn
  have O8 := Lib.hid o7
  have HNN := Lib.hid hN
  have N1 : N ≤ 2000 := by omega
  have N0 : 1 ≤ N := by omega
  clear o7 hm hN hmod
  go_wp2_with fail
  refine (start_any w7).mono ?_
  rintro e w8 ⟨rfl, q8⟩
  have z8 := q8.size
  have HIS : Hid ((Try.prog.info? 40).map (·.size) = some (u32Cells startL).toArray.size) := Lib.hid (info40.trans rfl)
  have O9 := Lib.hid (O8.out.keep q8 (fun _ _ h => h))
  have K8 := Lib.hid q8
  clear q8 O8
  go_wp2_with (refine wpList_store_rowK rfl 40 (.tmp 5) (.tmp 35) rfl w8.heap.size (u32Cells startL).toArray rfl rfl 40 _ (heap_alloc_new w8 _) HIS.out rfl (oneU32 _) ?_; intro w9 r9 q9; have R9 := Lib.hid r9; have Q9 := Lib.hid q9; clear r9 q9)
  refine (chunk_any (some ⟨g, 0, none⟩) (64 * N) cap w9).mono ?_
  rintro e w' ⟨rfl, rfl⟩
  go_wp2_with fail
  have G0 : Hid (Kp (fun k => w.heap.size + 1 ≤ k) (w.alloc (.cells #[.int .u8 0, .int .u8 0, .int .u8 0, .int .u8 0, .int .u8 0, .int .u8 0, .int .u8 0, .int .u8 0, .int .u8 0, .int .u8 0, .int .u8 0, .int .u8 0, .int .u8 0, .int .u8 0, .int .u8 0, .int .u8 0, .int .u8 0, .int .u8 0, .int .u8 0, .int .u8 0, .int .u8 0, .int .u8 0, .int .u8 0, .int .u8 0, .int .u8 0, .int .u8 0, .int .u8 0, .int .u8 0, .int .u8 0, .int .u8 0, .int .u8 0, .int .u8 0] 24)) w9) := by
    have c1 : Kp (fun k => w.heap.size + 1 ≤ k) _ w1 := Q1.out.mono fun _ h => h.elim
    have c2 := ktr c1 (Kp.alloc _ w1 (.cells #[.int .u8 128] 5))
    have c3 := ktr c2 (Kp.grown Q2.out (fun k e => (O1.out.lt k e).1))
    have c4 := ktr c3 (Kp.grown Q3.out (fun k e => by cases e; exact hb2))
    have c5 := ktr c4 (K4.out.mono fun _ h => h.elim)
    have c6 := ktr c5 (Kp.grown Q5.out (fun k e => (O3.out.lt k e).1))
    have c7 := ktr c6 (K6.out.mono fun _ h => h.elim)
    have c8 := ktr c7 (Kp.grown Q7.out (fun k e => (O5.out.lt k e).1))
    have c9 := ktr c8 (K8.out.mono fun _ h => h.elim)
    have ca := ktr c9 (Kp.alloc _ w8 (.cells #[.int .u32 0, .int .u32 0, .int .u32 0, .int .u32 0, .int .u32 0, .int .u32 0, .int .u32 0, .int .u32 0] 40))
    exact Lib.hid (ktr ca (Q9.out.mono fun k e => .inl (by omega)))
  obtain ⟨wA, hwA⟩ : ∃ wA, wA = (w9.alloc (.cells #[.slice (some ⟨g, 0, none⟩) (64 * N) cap] 33)).alloc (.cells #[.int .i64 64] 3) := ⟨_, rfl⟩
  have sA : wA.heap.size = w9.heap.size + 2 := by rw [hwA]; simp
  have hA0 : wA.heap[w9.heap.size]? = some (.cells #[.slice (some ⟨g, 0, none⟩) (64 * N) cap] 33 (0, 0)) := by rw [hwA]; exact heap_alloc2_old w9 _ _
  have hA1 : wA.heap[w9.heap.size + 1]? = some (.cells #[.int .i64 64] 3 (0, 0)) := by rw [hwA]; exact heap_alloc2_new w9 _ _
  have bA : wA.cell? ⟨w9.heap.size, 0, none⟩ = some (.slice (some ⟨g, 0, none⟩) (64 * N) cap) := cell_of_row _ _ 0 _ _ _ hA0
  have nA : wA.cell? ⟨w9.heap.size + 1, 0, none⟩ = some (.int .i64 64) := cell_of_row _ _ 0 _ _ _ hA1
  have kA : Kp (fun _ => False) w9 wA := by rw [hwA]; exact (Kp.alloc _ w9 _).trans (Kp.alloc (fun _ => False) _ _) fun _ h => h.elim
  have KA := Lib.hid kA
  have SA : Hid (wA.heap[w8.heap.size]? = some (.cells (u32Cells startL).toArray 40 (0, 0))) := Lib.hid (kA.heap R9.out (fun h => h))
  have l89 : w8.heap.size < w9.heap.size := (Array.getElem?_eq_some_iff.1 R9.out).1
  have l9 := O9.out.row
  obtain ⟨lb, lcur, lfr, lg⟩ := l9
  have k89 : Kp (fun k => k = w8.heap.size) w8 wA := (((Kp.alloc (fun k => k = w8.heap.size) w8 _).trans Q9.out fun _ h => .inl h).trans (kA.mono (G := fun k => k = w8.heap.size) fun _ h => h.elim) fun _ h => .inl h)
  have hgS : g < w8.heap.size := (Array.getElem?_eq_some_iff.1 lg).1
  have LB : Hid (Bs wA g 0 m) := Lib.hid (lb.kp k89 (by show ¬ g = w8.heap.size; omega))
  have K89 := Lib.hid k89
  rw [← hwA]
  clear hA0 hA1 hwA kA lb lcur lfr lg k89
  refine (wpIn_wide (n := 3)).1 ?_
  refine wpIn_rangeFunc_ownG (F := Fence.wide) (n := 3) rfl (by omega) (gf := 28) (lb := #[.pointer (some ⟨w9.heap.size, 0, none⟩), .pointer (some ⟨w9.heap.size + 1, 0, none⟩)]) rfl trivial (enters_of Try.func28 (by kernel_rfl) rfl)
    (chunk_stops 2 (by omega) w8.heap.size w9.heap.size (w9.heap.size + 1) wA.heap.size g N cap (by omega) hc (by omega) (by omega) wA (by omega) (by omega) bA nA) ks_t (fun W l o o' h1 h2 h3 h4 => ks_b h1 h2) (Below.refl _ _) (fun _ => rfl)
    (SumI m N w8.heap.size wA) (fun _ _ _ => False) (sumI_own (by omega)) (fun _ _ _ _ _ h _ _ => h) ⟨SA.out, Kp.refl _ _⟩
    (fun x => { tmps := #[.string s, undef, .pointer (some ⟨w.heap.size, 0, none⟩), .slice (some ⟨g, 0, none⟩) (64 * N) cap, .int .u64 ((s.size : Int) * 8), .pointer (some ⟨w8.heap.size, 0, none⟩), .slice (some ⟨g, 64 * (x % N), none⟩) 64 64, undef, undef, undef, .string s, v1, .slice (some ⟨w1.heap.size, 0, none⟩) 1 1, .slice (some ⟨g2, 0, none⟩) n2 c2, .slice (some ⟨g2, 0, none⟩) n2 c2, .slice (some ⟨g2, 0, none⟩) n2 c2, .int .i64 (n2 : Int), .int .i64 ((n2 : Int) % 64), .int .i64 (120 - (n2 : Int) % 64), .int .i64 ((120 - (n2 : Int)) % 64), v3, .string s, .int .i64 (s.size : Int), .int .u64 (s.size : Int), .int .u64 ((s.size : Int) * 8), v3, .int .u64 ((s.size : Int) * 8), .int .u64 ((s.size : Int) * 8 / 4294967296), .int .u32 ((s.size : Int) * 8 / 4294967296), .slice (some ⟨w3.heap.size, 0, none⟩) 4 4, v5, .int .u64 ((s.size : Int) * 8), .int .u32 ((s.size : Int) * 8), .slice (some ⟨w5.heap.size, 0, none⟩) 4 4, .slice (some ⟨g, 0, none⟩) (64 * N) cap, .agg (u32Cells startL).toArray, .slice (some ⟨g, 0, none⟩) (64 * N) cap, .func (.func 28) #[] #[.pointer (some ⟨w9.heap.size, 0, none⟩), .pointer (some ⟨w9.heap.size + 1, 0, none⟩)], .slice (some ⟨g, 64 * (x % N), none⟩) 64 64, undef, undef, undef, undef, undef, undef, undef, undef, undef, undef, undef, undef, undef, undef, undef], defers := [] }) ?assign ?body ?done ?stop
  case assign =>
    intro l x W K hK
    gi_wp2
    exact hK
  case body =>
    rintro l pre x W ⟨hrow, hkp⟩ _
    have hx : x % N < N := Nat.mod_lt _ (by omega)
    have hcl : (chunkL m N x).length = 64 := by
      rw [chunkL, List.length_take, List.length_drop, HNN.out]
      omega
    have hb : Bs W g (64 * (x % N)) (chunkL m N x) := by
      intro j hj
      rw [hcl] at hj
      have h := hkp.cell (LB.out (64 * (x % N) + j) (by rw [HNN.out]; omega)) (by show ¬ g = w8.heap.size; omega)
      rw [Nat.zero_add] at h
      rw [h]
      congr 3
      simp only [byteN, chunkL, List.getD, List.getElem?_take_of_lt hj, List.getElem?_drop]
    have HR := Lib.hid hrow
    have HK := Lib.hid hkp
    have HB := Lib.hid hb
    have HCL := Lib.hid hcl
    clear hrow hkp hb hcl
    gi_wp2
    refine ⟨trivial, ?_⟩
    refine (CallsIn.inRound l (callsIn_wide.2 (add_any W w8.heap.size g (64 * (x % N)) 64 (foldX m N pre) (chunkL m N x) (foldX_length _ _ _) HR.out HCL.out (by omega) (by omega) HB.out))).mono ?_
    rintro e W2 ⟨rfl, hrow2, hk2⟩
    have HR2 := Lib.hid hrow2
    have HK2 := Lib.hid hk2
    clear hrow2 hk2
    gi_wp2
    refine ⟨⟨HK2.out.size, fun k o _ hk ho => ?_⟩, HK2.out.mono fun k e => .inl (.inl e), ?_, HK.out.trans HK2.out fun _ h => .inl h⟩
    · rw [HK2.out.block k (Array.getElem?_eq_some_iff.1 hk).1 (fun e => ?_)]
      · exact hk
      · have e2 : k = w8.heap.size := e
        subst e2
        rw [HR.out] at hk
        cases hk
        cases ho
    · have e : foldX m N (pre ++ [x]) = blockF (foldX m N pre) (chunkL m N x) := by simp [foldX]
      rw [HR2.out, e]
  case done =>
    rintro D ys W hD rfl ⟨hrow, hkp⟩ hK
    have l8 : w.heap.size + 1 ≤ w8.heap.size := by omega
    have GW : Hid (Kp (fun k => w.heap.size + 1 ≤ k) (w.alloc (.cells #[.int .u8 0, .int .u8 0, .int .u8 0, .int .u8 0, .int .u8 0, .int .u8 0, .int .u8 0, .int .u8 0, .int .u8 0, .int .u8 0, .int .u8 0, .int .u8 0, .int .u8 0, .int .u8 0, .int .u8 0, .int .u8 0, .int .u8 0, .int .u8 0, .int .u8 0, .int .u8 0, .int .u8 0, .int .u8 0, .int .u8 0, .int .u8 0, .int .u8 0, .int .u8 0, .int .u8 0, .int .u8 0, .int .u8 0, .int .u8 0, .int .u8 0, .int .u8 0] 24)) W) := Lib.hid (ktr (ktr G0.out (KA.out.mono fun _ h => h.elim)) (hkp.mono fun k e => .inl (by omega)))
    have RES : Hid (W.heap[w.heap.size]? = some (.cells (byteCells (List.replicate 32 0)).toArray 24 (0, 0))) := Lib.hid (GW.out.heap (heap_alloc_new w _) (by show ¬ w.heap.size + 1 ≤ w.heap.size; omega))
    obtain ⟨s0, s1, s2, s3, s4, s5, s6, s7, hF⟩ := eight _ (foldX_length m N (List.range N))
    rw [hF] at hrow
    have HROW : Hid (W.heap[w8.heap.size]? = some (.cells #[.int .u32 (s0 : Int), .int .u32 (s1 : Int), .int .u32 (s2 : Int), .int .u32 (s3 : Int), .int .u32 (s4 : Int), .int .u32 (s5 : Int), .int .u32 (s6 : Int), .int .u32 (s7 : Int)] 40 (0, 0))) := Lib.hid hrow
    have HH : Hid (hashOf s.data.toList = hashL [s0, s1, s2, s3, s4, s5, s6, s7]) := Lib.hid (by
      have e : m.length / 64 = N := by rw [HNN.out]; omega
      rw [hashOf, ← HM.out, e, ← foldX_range m N N (Nat.le_refl _), hF])
    have HKD := Lib.hid hK
    have lW : w8.heap.size < W.heap.size := (Array.getElem?_eq_some_iff.1 hrow).1
    have lD : D < W.heap.size := (Array.getElem?_eq_some_iff.1 hK).1
    clear hF hrow hkp hK
    have c0 : W.cell? ⟨w8.heap.size, 0, none⟩ = some (.int .u32 (s0 : Int)) := cell_of_row _ _ 0 _ _ _ HROW.out
    have ne0 := World.new_ne W _ c0
    have c1 : W.cell? ⟨w8.heap.size, 1, none⟩ = some (.int .u32 (s1 : Int)) := cell_of_row _ _ 1 _ _ _ HROW.out
    have ne1 := World.new_ne W _ c1
    have c2 : W.cell? ⟨w8.heap.size, 2, none⟩ = some (.int .u32 (s2 : Int)) := cell_of_row _ _ 2 _ _ _ HROW.out
    have ne2 := World.new_ne W _ c2
    have c3 : W.cell? ⟨w8.heap.size, 3, none⟩ = some (.int .u32 (s3 : Int)) := cell_of_row _ _ 3 _ _ _ HROW.out
    have ne3 := World.new_ne W _ c3
    have c4 : W.cell? ⟨w8.heap.size, 4, none⟩ = some (.int .u32 (s4 : Int)) := cell_of_row _ _ 4 _ _ _ HROW.out
    have ne4 := World.new_ne W _ c4
    have c5 : W.cell? ⟨w8.heap.size, 5, none⟩ = some (.int .u32 (s5 : Int)) := cell_of_row _ _ 5 _ _ _ HROW.out
    have ne5 := World.new_ne W _ c5
    have c6 : W.cell? ⟨w8.heap.size, 6, none⟩ = some (.int .u32 (s6 : Int)) := cell_of_row _ _ 6 _ _ _ HROW.out
    have ne6 := World.new_ne W _ c6
    have c7 : W.cell? ⟨w8.heap.size, 7, none⟩ = some (.int .u32 (s7 : Int)) := cell_of_row _ _ 7 _ _ _ HROW.out
    have ne7 := World.new_ne W _ c7
    go_wp2_with fail
    clear c0 c1 c2 c3 c4 c5 c6 c7 ne0 ne1 ne2 ne3 ne4 ne5 ne6 ne7
    obtain ⟨wB, hwB⟩ : ∃ wB, wB = W.alloc (.cells (byteCells (List.replicate 32 0)).toArray 24) := ⟨_, rfl⟩
    have eq0 : (byteCells (List.replicate 32 0)).toArray = #[.int .u8 0, .int .u8 0, .int .u8 0, .int .u8 0, .int .u8 0, .int .u8 0, .int .u8 0, .int .u8 0, .int .u8 0, .int .u8 0, .int .u8 0, .int .u8 0, .int .u8 0, .int .u8 0, .int .u8 0, .int .u8 0, .int .u8 0, .int .u8 0, .int .u8 0, .int .u8 0, .int .u8 0, .int .u8 0, .int .u8 0, .int .u8 0, .int .u8 0, .int .u8 0, .int .u8 0, .int .u8 0, .int .u8 0, .int .u8 0, .int .u8 0, .int .u8 0] := rfl
    have PB : Hid (wB.heap[W.heap.size]? = some (.cells (byteCells (List.replicate 32 0)).toArray 24 (0, 0))) := Lib.hid (by rw [hwB]; exact heap_alloc_new W _)
    have KB : Hid (Kp (fun _ => False) W wB) := Lib.hid (by rw [hwB]; exact Kp.alloc _ _ _)
    rw [eq0] at hwB
    rw [← hwB]
    clear hwB eq0
    have lB : W.heap.size < wB.heap.size := (Array.getElem?_eq_some_iff.1 PB.out).1
    go_loopw [42] (fun i wr => C3Rel wB W.heap.size (hashL [s0, s1, s2, s3, s4, s5, s6, s7]) i wr) (fun i _ => 8 - (intOf i).toNat)
    case atStart => exact ⟨0, rfl, by omega, PB.out, Below.refl _ _⟩
    case round =>
      obtain ⟨k, rfl, hk, hrow, hbl⟩ := hrel
      have HR := Lib.hid hrow
      have HL := Lib.hid hbl
      clear hrow hbl
      by_cases h1 : k < 8
      · obtain ⟨y, hy⟩ : ∃ y, [s0, s1, s2, s3, s4, s5, s6, s7].getD k 0 = y := ⟨_, rfl⟩
        have hix : ∀ u : World, (Instr.index 40 (.agg #[.int .u32 (s0 : Int), .int .u32 (s1 : Int), .int .u32 (s2 : Int), .int .u32 (s3 : Int), .int .u32 (s4 : Int), .int .u32 (s5 : Int), .int .u32 (s6 : Int), .int .u32 (s7 : Int)]) (.int .i64 (k : Int))).run Try.prog u = .ok (.int .u32 (y : Int)) u := by
          intro u
          subst hy
          have hk8 : k = 0 ∨ k = 1 ∨ k = 2 ∨ k = 3 ∨ k = 4 ∨ k = 5 ∨ k = 6 ∨ k = 7 := by omega
          rcases hk8 with rfl | rfl | rfl | rfl | rfl | rfl | rfl | rfl <;> rfl
        have HY := Lib.hid hy
        clear hy
        have k8 : (k : Int) < 8 := by omega
        have k0 : (0 : Int) ≤ k := by omega
        have kw : IntKind.i64.wrap (4 * (k : Int)) = 4 * (k : Int) := IntWalk.i64_in _ (by omega)
        have kt : (4 * (k : Int)).toNat = 4 * k := by omega
        have k32 : 4 * (k : Int) ≤ 32 := by omega
        have k33 : (0 : Int) ≤ 4 * (k : Int) := by omega
        go_wp2_with fail
        have HS1 : Hid ((Try.prog.info? 5).map (·.size) = some 1) := Lib.hid (by kernel_rfl)
        have HLEN : Hid ((hashL [s0, s1, s2, s3, s4, s5, s6, s7]).length = 32) := Lib.hid rfl
        go_region_held3 (fun _ => True) (trivial) (first
          | (go_at_call 19; refine (bytes_at _ y rfl _).mono ?_; rintro e w2 ⟨rfl, e2⟩; have C2 := Lib.hid (e2 ▸ cells_new wr.drew (be4 y)); have HG2 : Hid (w2.heap[W.heap.size]? = some (.cells (byteCells ((hashL [s0, s1, s2, s3, s4, s5, s6, s7]).take (4 * k) ++ List.replicate (32 - 4 * k) 0)).toArray 24 (0, 0))) := Lib.hid (by rw [e2]; exact (Below.heap_alloc wr.drew _ _ (Array.getElem?_eq_some_iff.1 HR.out).1).trans HR.out); have HB2 : Hid (Below W.heap.size wB w2) := Lib.hid (by rw [e2]; exact HL.out.drew.alloc (by have := HL.out.size; simp; omega) _); clear e2)
          | (refine step_copy_splice rfl (.tmp 48) (.tmp 50) 33 33 rfl 5 Try.underlying33 HS1.out (some ⟨W.heap.size, 4 * k, none⟩) (some ⟨wr.heap.size, 0, none⟩) (32 - 4 * k) (32 - 4 * k) 4 4 (by rfl) (by rfl) W.heap.size (4 * k) _ 24 HG2.out (byteCells (be4 y)) (by simp [byteCells, be4, Nat.min_def]; omega) (fun _ => ⟨rfl, _, rfl, C2.out⟩) (by rw [byteCells_length, byteCells_length, List.length_append, List.length_take, HLEN.out, List.length_replicate]; simp [be4]; omega) (byteCells_one _) W.heap.size wB HB2.out (Nat.le_refl _) ?_; intro w3 g3 b3))
        go_wp2_with fail
        go_roundw
        case rel =>
          refine ⟨k + 1, by simp, by omega, ?_, b3⟩
          rw [g3.out, c3_splice (hashL [s0, s1, s2, s3, s4, s5, s6, s7]) k y h1 HLEN.out (by rw [← HY.out]; exact hash_take _ _ _ _ _ _ _ _ k h1)]
        case measure => simp [intOf]; omega
      · obtain rfl : k = 8 := by omega
        have hrP := HR.out
        rw [List.take_of_length_le (by rw [hashL_length _ rfl]; omega)] at hrP
        obtain ⟨H, hH⟩ : ∃ H, H = hashL [s0, s1, s2, s3, s4, s5, s6, s7] := ⟨_, rfl⟩
        have hHl : H.length = 32 := by rw [hH]; exact hashL_length _ rfl
        rw [← hH] at hrP
        have RP : Hid (wr.heap[W.heap.size]? = some (.cells (byteCells H).toArray 24 (0, 0))) := Lib.hid (by rw [hrP]; simp)
        have RO : Hid (wr.heap[w.heap.size]? = some (.cells (byteCells (List.replicate 32 0)).toArray 24 (0, 0))) := Lib.hid ((HL.out.block _ (by omega)).trans (KB.out.heap RES.out (fun h => h)))
        have HI : Hid ((Try.prog.info? 24).map (·.size) = some (byteCells H).toArray.size) := Lib.hid (info24.trans (by simp [byteCells, hHl]))
        have HZ2 : Hid ((byteCells (List.replicate 32 0)).toArray.size = (byteCells H).toArray.size) := Lib.hid (by simp [byteCells, hHl])
        have HHE := Lib.hid (HH.out.trans hH.symm)
        have GE : Hid (Kp (fun k => w.heap.size + 1 ≤ k) (w.alloc (.cells #[.int .u8 0, .int .u8 0, .int .u8 0, .int .u8 0, .int .u8 0, .int .u8 0, .int .u8 0, .int .u8 0, .int .u8 0, .int .u8 0, .int .u8 0, .int .u8 0, .int .u8 0, .int .u8 0, .int .u8 0, .int .u8 0, .int .u8 0, .int .u8 0, .int .u8 0, .int .u8 0, .int .u8 0, .int .u8 0, .int .u8 0, .int .u8 0, .int .u8 0, .int .u8 0, .int .u8 0, .int .u8 0, .int .u8 0, .int .u8 0, .int .u8 0, .int .u8 0] 24)) wr) := Lib.hid (ktr (ktr GW.out (KB.out.mono fun _ h => h.elim)) ⟨HL.out.os, HL.out.tape, HL.out.output, HL.out.size, fun k hk hn => HL.out.block k (by omega)⟩)
        have HKE : Hid (wr.heap[D]? = some (.deferred (some []))) := Lib.hid ((HL.out.block D (by omega)).trans (KB.out.heap HKD.out (fun h => h)))
        clear hH hrP hHl HR
        go_wp2_with (first
          | (refine wpList_load_row rfl 24 (.tmp 7) rfl W.heap.size rfl 24 _ (0, 0) _ RP.out Try.underlying24 rfl HI.out ?_)
          | (refine wpList_store_row rfl 24 (.tmp 2) (.tmp 53) rfl w.heap.size (byteCells H).toArray rfl rfl 24 _ RO.out HI.out HZ2.out (oneU8 _) ?_))
        have hDw : D ≠ w.heap.size := by omega
        have hsz : w.heap.size < wr.heap.size := (Array.getElem?_eq_some_iff.1 RO.out).1
        have hK' : (wr.setRow w.heap.size (byteCells H).toArray).heap[D]? = some (.deferred (some [])) := (setRow_other _ _ _ _ hDw).trans HKE.out
        refine ⟨by simp, .inl ⟨_, _, rfl, run_takeDeferred hK', ?_⟩⟩
        have hgr := grownBy_putObj' (wr.setRow w.heap.size (byteCells H).toArray) D (.deferred none)
        refine ⟨.agg (byteCells H).toArray, results_cell_row rfl _ _ w.heap.size 24 _ (0, 0) _ rfl ((hgr.block w.heap.size (by simpa using hsz) (fun e => hDw (by cases e; rfl))).trans (setRow_heap _ _ _ _ _ _ RO.out)) Try.underlying24 rfl HI.out, by rw [HHE.out], ?_⟩
        have g1 : Kp (fun k => w.heap.size ≤ k) w wr := (Kp.alloc (fun k => w.heap.size ≤ k) w _).trans GE.out fun k hk => .inl (by omega)
        have g2 := ktr g1 (kp_setRow (F := fun k => w.heap.size ≤ k) wr w.heap.size (byteCells H).toArray (Nat.le_refl _))
        have g3 := ktr g2 (Kp.grown hgr (fun k e => by cases e; omega))
        exact g3.mono fun k hk => .inr hk
  case stop =>
    rintro D c pre W _ _ h _
    exact h.elim

end Go.Proofs.Ytgkdjcednebgoaa
