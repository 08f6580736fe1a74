/- A row that []byte(s) made, and the walks of forge and forged. -/
import Derived.Test.YtlkamfmepjddkaaW2
import Derived.Lib.ConvBytes
set_option linter.unusedSimpArgs false
set_option linter.unusedVariables false
namespace Go.Proofs.Ytlkamfmepjddkaa
open Go.RowKit Go.Lib Go.Maps

theorem heap_setCell_fr (w : World) (g i : Nat) (cs : Array Value) (t : TypeId) (fr : Nat × Nat) (v : Value) (hg : w.heap[g]? = some (.cells cs t fr)) :
    (w.setCell ⟨g, i, none⟩ v).heap[g]? = some (.cells (cs.setIfInBounds i v) t fr) := by
  simp [World.setCell, Array.getElem?_modify, hg]

/-- A slice value that begins a row of bytes, from B on; the row may bear the mark of a conversion. -/
def OwnM (w : World) (B : Nat) (v : Value) (l : List UInt8) : Prop :=
  ∃ (g cap : Nat) (cur : Array Value) (fr : Nat × Nat), v = .slice (some ⟨g, 0, none⟩) l.length cap ∧ B ≤ g ∧ w.heap[g]? = some (.cells cur 5 fr) ∧ (fr = (0, 0) ∨ fr = (cur.size, cur.size + 1)) ∧ l.length ≤ cap ∧ cap ≤ maxLen ∧ cur.size = cap ∧ cur.toList.take l.length = byteCells l

theorem OwnM.lt {w : World} {B : Nat} {v : Value} {l : List UInt8} (h : OwnM w B v l) : ∀ k, v.ownBlock = some k → B ≤ k ∧ k < w.heap.size := by
  obtain ⟨g, cap, cur, fr, rfl, hB, hg, _⟩ := h
  intro k hk
  simp [Value.ownBlock] at hk
  subst hk
  exact ⟨hB, (Array.getElem?_eq_some_iff.1 hg).1⟩

theorem OwnM.keep {F : Nat → Prop} {w w' : World} {B : Nat} {v : Value} {l : List UInt8} (h : OwnM w B v l) (hk : Kp F w w') (hF : ∀ k, v.ownBlock = some k → ¬ F k) : OwnM w' B v l := by
  obtain ⟨g, cap, cur, fr, rfl, hB, hg, rest⟩ := h
  exact ⟨g, cap, cur, fr, rfl, hB, hk.heap hg (hF g rfl), rest⟩

/-- []byte(s). -/
theorem OwnM.made (w : World) (s : ByteArray) (hs : s.size ≤ 1000000) : OwnM (bytesWorld w 5 s) w.heap.size (.slice (some ⟨w.heap.size, 0, none⟩) s.size (grownCap w s.size 0 5)) s.data.toList := by
  have hge := grownCap_ge w s.size 0 5
  have hcm2 : grownCap w s.size 0 5 ≤ maxLen := grownCap_le_maxLen w _ _ _ (by unfold maxLen; omega)
  have hsz : (bytesCells w 5 s).size = grownCap w s.size 0 5 := by
    simp [bytesCells]
    have : s.data.size = s.size := rfl
    omega
  refine ⟨w.heap.size, _, bytesCells w 5 s, _, by rw [size_list], Nat.le_refl _, bytesWorld_at_new w 5 s, .inr rfl, by rw [← size_list]; exact hge, hcm2, hsz, ?_⟩
  simp only [bytesCells, Array.toList_append, Array.toList_map, Array.toList_replicate]
  rw [List.take_left' (by simp)]
  rfl

theorem bytesWorld_kp (w : World) (s : ByteArray) : Kp (fun _ => False) w (bytesWorld w 5 s) :=
  ⟨rfl, rfl, rfl, by rw [bytesWorld_size]; omega, fun k hk _ => bytesWorld_at_old w 5 s k hk⟩

theorem OwnM.form {w : World} {B : Nat} {v : Value} {l : List UInt8} (h : OwnM w B v l) : ∃ g cap n : Nat, v = .slice (some ⟨g, 0, none⟩) n cap ∧ n = l.length ∧ n ≤ cap ∧ B ≤ g ∧ cap ≤ 9223372036854775807 := by
  obtain ⟨g, cap, cur, fr, rfl, hB, hg, _, hn, hm, _⟩ := h
  exact ⟨g, cap, _, rfl, rfl, hn, hB, by simpa [maxLen] using hm⟩

theorem OwnM.down {w : World} {B B' : Nat} {v : Value} {l : List UInt8} (h : OwnM w B v l) (hB : B' ≤ B) : OwnM w B' v l := by
  obtain ⟨g, cap, cur, fr, e, hb, rest⟩ := h
  exact ⟨g, cap, cur, fr, e, Nat.le_trans hB hb, rest⟩

theorem wpList_bytes_of {w : World} {ops : Array Oper} {rest : List Oper} {o : Oper} {a : Act} {Q : Exit → Act → World → Prop} (hgd : o.guard = none) (x : Operand) (ho : o.op = .convert 9 59 x)
    (s : ByteArray) (hx : a.eval x = .string s) (hs : s.size ≤ 1000000) (B : Nat) (hB : B ≤ w.heap.size)
    (h : ∀ v w', OwnM w' B v s.data.toList → Kp (fun _ => False) w w' → wpList Try.prog ops Q rest (a.put o.dst v) w') : wpList Try.prog ops Q (o :: rest) a w := by
  refine wpList_plain hgd fun K hK => ?_
  have hr := Go.Lib.run_convert_string_bytes (P := Try.prog) w 9 59 5 s Try.underlying9 Try.underlying59 Try.underlying5
  unfold Oper.wp
  simp only [execOp, ho, hx, Sem.run_bind, Sem.run_pure]
  rw [hr]
  exact hK _ _ (h _ _ ((OwnM.made w s hs).down hB) (bytesWorld_kp w s))

/-- One byte of a row that may bear a mark is stored anew. -/
theorem OwnM.set1 {w : World} {B g cap n : Nat} {l : List UInt8} (h : OwnM w B (.slice (some ⟨g, 0, none⟩) n cap) l) (j : Nat) (c : UInt8) (hj : j < l.length) :
    OwnM (w.setCell ⟨g, j, none⟩ (.int .u8 (c.toNat : Int))) B (.slice (some ⟨g, 0, none⟩) n cap) (l.set j c) := by
  obtain ⟨g', cap', cur, fr, he, hB, hg, hfr, hn, hm, hs, ht⟩ := h
  cases he
  refine ⟨g, cap, _, fr, by rw [List.length_set], hB, heap_setCell_fr w g j cur 5 fr _ hg, ?_, by rw [List.length_set]; exact hn, hm, by simpa using hs, ?_⟩
  · rcases hfr with h | h
    · exact .inl h
    · exact .inr (by rw [h]; simp)
  · rw [List.length_set, Array.toList_setIfInBounds, List.take_set, ht]
    simp only [byteCells, List.map_set]

theorem OwnM.cell1 {w : World} {B g cap n : Nat} {l : List UInt8} (h : OwnM w B (.slice (some ⟨g, 0, none⟩) n cap) l) (j : Nat) (hj : j < l.length) :
    w.cell? ⟨g, j, none⟩ = some (.int .u8 ((l.getD j 0).toNat : Int)) ∧ w.frozen? ⟨g, j, none⟩ = false := by
  obtain ⟨g', cap', cur, fr, he, hB, hg, hfr, hn, hm, hs, ht⟩ := h
  cases he
  constructor
  · rw [cell_of_row w g j cur 5 fr hg, ← Array.getElem?_toList]
    have : (byteCells l)[j]? = cur.toList[j]? := by rw [← ht, List.getElem?_take_of_lt hj]
    rw [← this]
    simpa using rowB_some l j hj
  · rcases hfr with h | h <;> subst h <;> simp [World.frozen?, hg] <;> omega

/-- The row as a string. -/
theorem OwnM.str {w : World} {B g cap n : Nat} {l : List UInt8} (h : OwnM w B (.slice (some ⟨g, 0, none⟩) n cap) l) (t : ByteArray) (ht : t = ⟨l.toArray⟩) :
    (convert 59 9 (.slice (some ⟨g, 0, none⟩) n cap)).run Try.prog w = .ok (.string t) w := by
  have h0 := h
  obtain ⟨g', cap', cur, fr, he, hB, hg, hfr, hn, hm, hs, htk⟩ := h
  cases he
  have e1 : t = strOfNums (l.map fun b => (b.toNat : Int)) := by
    apply ba_ext
    rw [ht, strOfNums_data]
    simp [Function.comp_def]
  rw [e1]
  refine run_convert_bytes_arg _ 59 5 Try.underlying59 Try.underlying5 g 0 l.length cap _ (by simp) ?_ 9 Try.underlying9
  intro i hi
  rw [Nat.zero_add, (h0.cell1 i hi).1]
  simp [List.getD, hi]


theorem strs1' (w : World) (s : ByteArray) (n : Nat) (hn : w.heap.size = n) : StrsAt (w.alloc (.cells #[.string s] 9)) (.slice (some ⟨n, 0, none⟩) 1 1) [s] := by
  subst hn
  exact strs1 w s
theorem xorAt_len (l : List UInt8) (k : Nat) : (xorAt l k).length = l.length := by simp [xorAt]
theorem bits_xor1 (x : UInt8) : bits BinOp.xor IntKind.u8 (x.toNat : Int) 1 = ((x ^^^ 1).toNat : Int) := by
  revert x
  intro x
  have h := UInt8.toNat_lt x
  have key : ∀ n : Fin 256, bits BinOp.xor IntKind.u8 (n.val : Int) 1 = ((UInt8.ofNat n.val ^^^ 1).toNat : Int) := by decide +kernel
  have := key ⟨x.toNat, h⟩
  simpa using this

set_option maxHeartbeats 1000000 in
theorem forge_any (p : Value) (s : ByteArray) (k : Int) (w : World) (hs : s.size ≤ 1000) : Calls Try.prog 46 #[p, .string s, .int .i64 k] w (SPost w [forgedS s k]) := by
  obtain ⟨L, hL⟩ : ∃ L, L = s.data.toList := ⟨_, rfl⟩
  obtain ⟨N, hN⟩ : ∃ N, N = L.length := ⟨_, rfl⟩
  have hNs : s.size = N := by rw [size_list, ← hL, hN]
  have hN2 : N ≤ 1000 := by omega
  by_cases h0 : N = 0
  · subst h0
    have E := Lib.hid (show turnI k 0 = -1 from rfl)
    have hL0 : L = [] := List.eq_nil_of_length_eq_zero hN.symm
    have HF : Hid (forgedS s k = ⟨(L).toArray⟩) := Lib.hid (by unfold forgedS; rw [← hL, hL0]; rfl)
    have HL := Lib.hid hL.symm
    have HN := Lib.hid hN
    clear hL hN hL0 hNs
    go_enter Try.func46, Try.ntmps46
    go_wp2_with (refine wpList_bytes_of rfl (.tmp 8) rfl s rfl (by omega) w.heap.size (Nat.le_refl _) ?_; intro v2 w2 o2 q2; rw [HL.out] at o2; obtain ⟨g, cap, hv⟩ : ∃ g cap : Nat, v2 = .slice (some ⟨g, 0, none⟩) 0 cap := (by obtain ⟨g, cap, n, e1, e2, _⟩ := o2.form; rw [← HN.out] at e2; exact ⟨g, cap, by rw [e1, e2]⟩); subst hv; have O2 := Lib.hid o2; have Q2 := Lib.hid q2; clear o2 q2)
    refine (turn_any k 0 _ (by omega)).mono ?_
    rintro e w' ⟨rfl, rfl⟩
    rw [E.out]
    have hcv := O2.out.str _ HF.out
    go_wp2_with fail
    go_ret
    exact ⟨_, rfl, strs1 _ _, Q2.out.trans (Kp.alloc (fun _ => False) _ _) fun _ h => h.elim⟩
  · obtain ⟨i, hi⟩ : ∃ i : Nat, k % (N : Int) = (i : Int) := ⟨(k % (N : Int)).toNat, by have := Int.emod_nonneg k (show (N : Int) ≠ 0 by omega); omega⟩
    have hin : i < N := by have := Int.emod_lt_of_pos k (show (0 : Int) < (N : Int) by omega); omega
    have E := Lib.hid (show turnI k N = (i : Int) by simp [turnI, h0, hi])
    obtain ⟨x, hx⟩ : ∃ x, L.getD i 0 = x := ⟨_, rfl⟩
    have HF : Hid (forgedS s k = ⟨(L.set i (x ^^^ 1)).toArray⟩) := Lib.hid (by unfold forgedS xorAt; rw [← hL, hNs, hi, Int.toNat_natCast, hx])
    have HL := Lib.hid hL.symm
    have HN := Lib.hid hN
    have HX := Lib.hid hx
    have hi0 : (0 : Int) ≤ (i : Int) := by omega
    have hi1 : (i : Int) < (N : Int) := by omega
    have hsb : s.size ≤ 1000000 := by omega
    have hbx := Lib.hid (bits_xor1 x)
    clear hL hN hi hNs hx
    go_enter Try.func46, Try.ntmps46
    go_wp2_with (refine wpList_bytes_of rfl (.tmp 8) rfl s rfl hsb w.heap.size (Nat.le_refl _) ?_; intro v2 w2 o2 q2; rw [HL.out] at o2; obtain ⟨g, cap, hv, hg⟩ : ∃ g cap : Nat, v2 = .slice (some ⟨g, 0, none⟩) N cap ∧ w.heap.size ≤ g := (by obtain ⟨g, cap, n, e1, e2, e3, e4, _⟩ := o2.form; rw [← HN.out] at e2; exact ⟨g, cap, by rw [e1, e2], e4⟩); subst hv; have O2 := Lib.hid o2; have Q2 := Lib.hid q2; clear o2 q2)
    refine (turn_any k N _ (by omega)).mono ?_
    rintro e w' ⟨rfl, rfl⟩
    rw [E.out]
    have hcl := O2.out.cell1 i (by rw [← HN.out]; exact hin)
    rw [HX.out] at hcl
    obtain ⟨cc, cf⟩ := hcl
    have hst := O2.out.set1 i (x ^^^ 1) (by rw [← HN.out]; exact hin)
    have hcv := hst.str _ HF.out
    rw [← hbx.out] at hcv
    have Q3 : Hid (Kp (fun _ => False) w (w2.setCell ⟨g, i, none⟩ (.int .u8 ((x ^^^ 1).toNat : Int)))) := Lib.hid (Q2.out.trans (Kp.setCell (F := fun j => j = g) w2 (a := ⟨g, i, none⟩) _ rfl) fun j hj => .inr (by omega))
    rw [← hbx.out] at Q3
    clear hst
    go_wp2_with fail
    go_ret
    exact ⟨_, rfl, strs1' _ _ _ (by simp [World.setCell]), Q3.out.trans (Kp.alloc (fun _ => False) _ _) fun _ h => h.elim⟩

end Go.Proofs.Ytlkamfmepjddkaa
