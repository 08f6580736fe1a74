/- Walk: a block is added to a state. -/
import Derived.Test.YtgkdjcednebgoaaX3
namespace Go.Proofs.Ytgkdjcednebgoaa
open Go.RowKit Go.Lib

/-- A whole row is stored; the world behind it is a letter. -/
theorem wpList_store_rowK {P : Program} {ops : Array Oper} {rest : List Oper} {o : Oper} {a : Act} {w : World} {Q : Exit → Act → World → Prop} (hgd : o.guard = none) (ty : TypeId) (x y : Operand) (ho : o.op = .store ty x y)
    (g : Nat) (cells : Array Value) (hx : a.eval x = .pointer (some ⟨g, 0, none⟩)) (hy : a.eval y = .agg cells)
    (t : TypeId) (old : Array Value) (hg : w.heap[g]? = some (.cells old t (0, 0))) (hi : (P.info? ty).map (·.size) = some cells.size)
    (hold : old.size = cells.size) (h1 : cells.all (·.oneCell') = true)
    (h : ∀ w', w'.heap[g]? = some (.cells cells t (0, 0)) → Kp (fun k => k = g) w w' → wpList P ops Q rest (a.put o.dst undef) w') : wpList P ops Q (o :: rest) a w :=
  wpList_store_row hgd ty x y ho g cells hx hy t old hg hi hold h1 (h _ (setRow_heap _ _ _ _ _ _ hg) (kp_setRow _ _ _ rfl))

structure V8 where
  (a b c d e f g h : Nat)

def V8.list (v : V8) : List Nat := [v.a, v.b, v.c, v.d, v.e, v.f, v.g, v.h]
def V8.of (l : List Nat) : V8 := ⟨l.getD 0 0, l.getD 1 0, l.getD 2 0, l.getD 3 0, l.getD 4 0, l.getD 5 0, l.getD 6 0, l.getD 7 0⟩
def ch32 (e f g : Nat) : Nat := xor32 (and32 e f) (and32 (not32 e) g)
def maj32 (a b c : Nat) : Nat := xor32 (xor32 (and32 a b) (and32 a c)) (and32 b c)
def tOf (v : V8) (k w : Nat) : Nat := add32 (add32 (add32 (add32 v.h (mix32 v.e 6 11 25)) (ch32 v.e v.f v.g)) k) w
def uOf (v : V8) : Nat := add32 (mix32 v.a 2 13 22) (maj32 v.a v.b v.c)
def step (v : V8) (k w : Nat) : V8 := ⟨add32 (tOf v k w) (uOf v), v.a, v.b, v.c, add32 v.d (tOf v k w), v.e, v.f, v.g⟩
def run64 (wl : List Nat) (v : V8) : Nat → V8
  | 0 => v
  | i + 1 => step (run64 wl v i) (kL.getD i 0) (wl.getD i 0)
def sumL (s t : List Nat) : List Nat := List.zipWith add32 s t
def blockF (st : List Nat) (b : List UInt8) : List Nat := sumL st (run64 (sched b 64) (V8.of st) 64).list

theorem quiet_eq {w : World} {f : FuncId} {args : Array Value} {v : Value} {n : Nat} (h : Calls Try.prog f args (w.drewN n) fun e w' => e = .returned v ∧ w.drewN n = w') :
    Calls Try.prog f args (w.drewN n) fun e w'' => e = .returned v ∧ ∃ m, w'' = w.drewN m := h.mono fun _ _ ⟨he, hw⟩ => ⟨he, n, hw.symm⟩

theorem bits_not32 (a : Nat) : Go.bits .xor .u32 IntKind.u32.max (a : Int) = ((not32 a : Nat) : Int) := by
  have e : IntKind.u32.max = ((4294967295 : Nat) : Int) := by decide +kernel
  rw [e]
  exact bits_xor32 4294967295 a

theorem eq_e (d a c k w : Nat) : Value.int .u32 (((d : Int) + ((a : Int) + (c : Int) + (k : Int) + (w : Int)) % 4294967296) % 4294967296) = .int .u32 ((add32 d (add32 (add32 (add32 a c) k) w) : Nat) : Int) := by
  congr 1
  simp only [add32]
  omega
theorem eq_a (a c k w m j : Nat) : Value.int .u32 ((((a : Int) + (c : Int) + (k : Int) + (w : Int)) % 4294967296 + ((add32 m j : Nat) : Int)) % 4294967296) = .int .u32 ((add32 (add32 (add32 (add32 a c) k) w) (add32 m j) : Nat) : Int) := by
  congr 1
  simp only [add32]
  omega

def ARel (w2 : World) (wl : List Nat) (v : V8) (i a b c d e f g h : Value) (wr : World) : Prop :=
  ∃ (k : Nat) (x : V8), x = run64 wl v k ∧ i = .int .i64 (k : Nat) ∧ k ≤ 64 ∧ a = .int .u32 (x.a : Nat) ∧ b = .int .u32 (x.b : Nat) ∧ c = .int .u32 (x.c : Nat) ∧ d = .int .u32 (x.d : Nat) ∧
    e = .int .u32 (x.e : Nat) ∧ f = .int .u32 (x.f : Nat) ∧ g = .int .u32 (x.g : Nat) ∧ h = .int .u32 (x.h : Nat) ∧ Kp (fun _ => False) w2 wr

/-- The first k words are added. -/
def sumK (s t : List Nat) (k : Nat) : List Nat := sumL (s.take k) (t.take k) ++ s.drop k

def LRel (w : World) (S : Nat) (s t : List Nat) (i : Value) (wr : World) : Prop :=
  ∃ k : Nat, i = .int .i64 (k : Nat) ∧ k ≤ 8 ∧ wr.heap[S]? = some (.cells (u32Cells (sumK s t k)).toArray 40 (0, 0)) ∧ Kp (fun k => k = S) w wr

theorem sumK_get (s0 s1 s2 s3 s4 s5 s6 s7 xa xb xc xd xe xf xg xh k : Nat) (h : k < 8) :
    (u32Cells (sumK [s0, s1, s2, s3, s4, s5, s6, s7] [xa, xb, xc, xd, xe, xf, xg, xh] k)).toArray[k]? = some (.int .u32 (([s0, s1, s2, s3, s4, s5, s6, s7].getD k 0 : Nat) : Int)) := by
  have hk8 : k = 0 ∨ k = 1 ∨ k = 2 ∨ k = 3 ∨ k = 4 ∨ k = 5 ∨ k = 6 ∨ k = 7 := by omega
  rcases hk8 with rfl | rfl | rfl | rfl | rfl | rfl | rfl | rfl <;> rfl

theorem sumK_set (s0 s1 s2 s3 s4 s5 s6 s7 xa xb xc xd xe xf xg xh k : Nat) (h : k < 8) :
    (u32Cells (sumK [s0, s1, s2, s3, s4, s5, s6, s7] [xa, xb, xc, xd, xe, xf, xg, xh] k)).toArray.setIfInBounds k (.int .u32 ((add32 ([s0, s1, s2, s3, s4, s5, s6, s7].getD k 0) ([xa, xb, xc, xd, xe, xf, xg, xh].getD k 0) : Nat) : Int)) =
      (u32Cells (sumK [s0, s1, s2, s3, s4, s5, s6, s7] [xa, xb, xc, xd, xe, xf, xg, xh] (k + 1))).toArray := by
  have hk8 : k = 0 ∨ k = 1 ∨ k = 2 ∨ k = 3 ∨ k = 4 ∨ k = 5 ∨ k = 6 ∨ k = 7 := by omega
  rcases hk8 with rfl | rfl | rfl | rfl | rfl | rfl | rfl | rfl <;> rfl

theorem lrel_step {w wr : World} {S s0 s1 s2 s3 s4 s5 s6 s7 xa xb xc xd xe xf xg xh k v y : Nat}
    (hrow : wr.heap[S]? = some (.cells (u32Cells (sumK [s0, s1, s2, s3, s4, s5, s6, s7] [xa, xb, xc, xd, xe, xf, xg, xh] k)).toArray 40 (0, 0))) (hkp : Kp (fun k => k = S) w wr) (hk : k < 8)
    (hv : [s0, s1, s2, s3, s4, s5, s6, s7].getD k 0 = v) (hy : [xa, xb, xc, xd, xe, xf, xg, xh].getD k 0 = y) :
    LRel w S [s0, s1, s2, s3, s4, s5, s6, s7] [xa, xb, xc, xd, xe, xf, xg, xh] (.int .i64 ((k : Int) + 1)) (wr.setCell ⟨S, k, none⟩ (.int .u32 ((add32 v y : Nat) : Int))) := by
  subst hv hy
  refine ⟨k + 1, by simp, by omega, ?_, hkp.trans (Kp.setCell (F := fun j => j = S) wr (a := ⟨S, k, none⟩) _ rfl) fun j hj => .inl hj⟩
  rw [heap_setCell_same wr S k _ 40 _ hrow, sumK_set _ _ _ _ _ _ _ _ _ _ _ _ _ _ _ _ k hk]

set_option maxRecDepth 100000 in
set_option maxHeartbeats 2000000 in
theorem add_any (w : World) (S g off cap : Nat) (st : List Nat) (b : List UInt8) (hst : st.length = 8) (hS : w.heap[S]? = some (.cells (u32Cells st).toArray 40 (0, 0))) (hb : b.length = 64) (hc : 64 ≤ cap) (hcm : cap ≤ 9223372036854775807) (h : Bs w g off b) :
    Calls Try.prog 22 #[.pointer (some ⟨S, 0, none⟩), .slice (some ⟨g, off, none⟩) 64 cap] w fun e w' => e = .returned (.tuple #[]) ∧ w'.heap[S]? = some (.cells (u32Cells (blockF st b)).toArray 40 (0, 0)) ∧ Kp (fun k => k = S) w w' := by
  obtain ⟨s0, s1, s2, s3, s4, s5, s6, s7, rfl⟩ : ∃ s0 s1 s2 s3 s4 s5 s6 s7, st = [s0, s1, s2, s3, s4, s5, s6, s7] := by
    match st, hst with
    | [s0, s1, s2, s3, s4, s5, s6, s7], _ => exact ⟨s0, s1, s2, s3, s4, s5, s6, s7, rfl⟩
  have H := Lib.hid h
  have HS := Lib.hid hS
  have hSl : S < w.heap.size := (Array.getElem?_eq_some_iff.1 hS).1
  clear h hS hst
  go_enter Try.func22, Try.ntmps22
  go_wp2_with fail
  refine (schedule_any w g off cap b hb hc hcm H.out).mono ?_
  rintro e w1 ⟨rfl, q1⟩
  have K1 := Lib.hid q1
  clear q1
  go_wp2_with fail
  refine (rounds_any w1).mono ?_
  rintro e w2 ⟨rfl, q2⟩
  have K2 := Lib.hid (K1.out.trans q2 fun _ h => h.elim)
  clear q2
  obtain ⟨W, hW⟩ : ∃ W, W = sched b 64 := ⟨_, rfl⟩
  have hWl : W.length = 64 := by rw [hW]; exact sched_length b 64
  rw [← hW]
  have HW := Lib.hid hW
  have HIW : Hid ((Try.prog.info? 58).map (·.size) = some (u32Cells W).toArray.size) := Lib.hid (info58.trans (by simp [u32Cells, hWl]))
  have HIK : Hid ((Try.prog.info? 58).map (·.size) = some (u32Cells kL).toArray.size) := Lib.hid (info58.trans (by simp [u32Cells, kL]))
  clear hW
  have HZW : Hid (64 = (u32Cells W).toArray.size) := Lib.hid (by simp [u32Cells, hWl])
  have HZK : Hid (64 = (u32Cells kL).toArray.size) := Lib.hid (by simp [u32Cells, kL])
  go_wp2_with (first
    | (refine wpList_store_rowK rfl 58 (.tmp 4) (.tmp 20) rfl w2.heap.size (u32Cells W).toArray rfl rfl 58 _ (heap_alloc2_old w2 _ _) HIW.out HZW.out (oneU32 _) ?_; intro w3 r3 q3; have R3 := Lib.hid r3; have Q3 := Lib.hid q3; clear r3 q3)
    | (refine wpList_store_rowK rfl 58 (.tmp 5) (.tmp 21) rfl (w2.heap.size + 1) (u32Cells kL).toArray rfl rfl 58 _ (Q3.out.heap (heap_alloc2_new w2 _ _) (by omega)) HIK.out HZK.out (oneU32 _) ?_; intro w4 r4 q4; have R4 := Lib.hid r4; have Q4 := Lib.hid q4; clear r4 q4))
  have RW : Hid (w4.heap[w2.heap.size]? = some (.cells (u32Cells W).toArray 58 (0, 0))) := Lib.hid (Q4.out.heap R3.out (by omega))
  have RK : Hid (w4.heap[w2.heap.size + 1]? = some (.cells (u32Cells kL).toArray 58 (0, 0))) := R4
  have K4 : Hid (Kp (fun _ => False) w w4) := by
    have z := Q3.out.size
    have z2 := K2.out.size
    simp at z
    exact Lib.hid ((((K2.out.trans (Kp.alloc (fun _ => False) w2 _) fun _ h => h.elim).trans (Kp.alloc (fun _ => False) _ _) fun _ h => h.elim).trans Q3.out fun k hk => .inr (by omega)).trans Q4.out fun k hk => .inr (by omega))
  have S4 : Hid (w4.heap[S]? = _) := Lib.hid (K4.out.heap HS.out (fun h => h))
  clear R3 R4 Q3 Q4 HZW HZK HIW HIK K2 K1 H HS
  have c0 : w4.cell? ⟨S, 0, none⟩ = some (.int .u32 (s0 : Int)) := cell_of_row _ S 0 _ _ _ S4.out
  have c1 : w4.cell? ⟨S, 1, none⟩ = some (.int .u32 (s1 : Int)) := cell_of_row _ S 1 _ _ _ S4.out
  have c2 : w4.cell? ⟨S, 2, none⟩ = some (.int .u32 (s2 : Int)) := cell_of_row _ S 2 _ _ _ S4.out
  have c3 : w4.cell? ⟨S, 3, none⟩ = some (.int .u32 (s3 : Int)) := cell_of_row _ S 3 _ _ _ S4.out
  have c4 : w4.cell? ⟨S, 4, none⟩ = some (.int .u32 (s4 : Int)) := cell_of_row _ S 4 _ _ _ S4.out
  have c5 : w4.cell? ⟨S, 5, none⟩ = some (.int .u32 (s5 : Int)) := cell_of_row _ S 5 _ _ _ S4.out
  have c6 : w4.cell? ⟨S, 6, none⟩ = some (.int .u32 (s6 : Int)) := cell_of_row _ S 6 _ _ _ S4.out
  have c7 : w4.cell? ⟨S, 7, none⟩ = some (.int .u32 (s7 : Int)) := cell_of_row _ S 7 _ _ _ S4.out
  go_wp2_with fail
  go_quiet (fail)
  go_wp2_with fail
  clear c0 c1 c2 c3 c4 c5 c6 c7
  go_loopw [54, 6, 7, 8, 9, 10, 11, 12, 13] (fun i a b c d e f g h wr => ARel w4 W ⟨s0, s1, s2, s3, s4, s5, s6, s7⟩ i a b c d e f g h wr) (fun i _ _ _ _ _ _ _ _ _ => 64 - (intOf i).toNat)
  case atStart => exact ⟨0, _, rfl, rfl, by omega, rfl, rfl, rfl, rfl, rfl, rfl, rfl, rfl, Kp.drewN _ _ _⟩
  case round =>
    obtain ⟨k, x, hx, rfl, hk, rfl, rfl, rfl, rfl, rfl, rfl, rfl, rfl, hkp⟩ := hrel
    have HK := Lib.hid hkp
    clear hkp
    have HX := Lib.hid hx
    clear hx
    by_cases h1 : k < 64
    · have cw : wr.cell? ⟨w2.heap.size, k, none⟩ = some (.int .u32 ((W.getD k 0 : Nat) : Int)) := by rw [cell_of_row _ _ _ _ _ _ (HK.out.heap RW.out (fun h => h))]; exact u32Cells_get W k (by omega)
      have ck : wr.cell? ⟨w2.heap.size + 1, k, none⟩ = some (.int .u32 ((kL.getD k 0 : Nat) : Int)) := by rw [cell_of_row _ _ _ _ _ _ (HK.out.heap RK.out (fun h => h))]; exact u32Cells_get kL k (by simpa [kL] using h1)
      obtain ⟨wk, hwk⟩ : ∃ y, y = W.getD k 0 := ⟨_, rfl⟩
      obtain ⟨kk, hkk⟩ : ∃ y, y = kL.getD k 0 := ⟨_, rfl⟩
      rw [← hwk] at cw
      rw [← hkk] at ck
      have HXN : Hid (run64 W ⟨s0, s1, s2, s3, s4, s5, s6, s7⟩ (k + 1) = step x kk wk) := Lib.hid (by rw [run64, ← HX.out, hwk, hkk])
      clear hwk hkk
      have hxr := bits_xor32
      have had := wrap_add32
      have han := bits_and32
      have hnt := bits_not32
      obtain ⟨xa, xb, xc, xd, xe, xf, xg, xh⟩ := x
      have l1 : (k : Int) < 64 := by omega
      go_wp2_with fail
      go_quiet ((go_at_call 31; exact quiet_eq (mixed_any xe 6 11 25 (by omega) (by omega) (by omega) (by omega) (by omega) (by omega) _)))
      go_wp2_with fail
      refine (mixed_any xa 2 13 22 (by omega) (by omega) (by omega) (by omega) (by omega) (by omega) _).mono ?_
      rintro e w' ⟨rfl, rfl⟩
      go_wp2_with fail
      go_roundw
      case rel => exact ⟨k + 1, _, HXN.out.symm, by simp, by omega, eq_a _ _ _ _ _ _, rfl, rfl, rfl, eq_e _ _ _ _ _, rfl, rfl, rfl, HK.out.trans (Kp.drewN (fun _ => False) _ _) fun _ h => h.elim⟩
      case measure => simp [intOf]; omega
    · obtain rfl : k = 64 := by omega
      obtain ⟨xa, xb, xc, xd, xe, xf, xg, xh⟩ := x
      have S5 : Hid (wr.heap[S]? = _) := Lib.hid (HK.out.heap S4.out (fun h => h))
      have K5 := Lib.hid (K4.out.trans HK.out fun _ h => h.elim)
      have had := wrap_add32
      go_wp2_with fail
      go_loopw [114] (fun i wr => LRel w S [s0, s1, s2, s3, s4, s5, s6, s7] [xa, xb, xc, xd, xe, xf, xg, xh] i wr) (fun i _ => 8 - (intOf i).toNat)
      case atStart => exact ⟨0, rfl, by omega, S5.out, K5.out.mono fun _ h => h.elim⟩
      case round =>
        obtain ⟨k, rfl, hk, hrow, hkp⟩ := hrel
        have HR := Lib.hid hrow
        have HP := Lib.hid hkp
        clear hrow hkp
        by_cases h1 : k < 8
        · obtain ⟨y, hy⟩ : ∃ y, [xa, xb, xc, xd, xe, xf, xg, xh].getD k 0 = y := ⟨_, rfl⟩
          have hix : ∀ u : World, (Instr.index 40 (.agg #[.int .u32 (xa : Int), .int .u32 (xb : Int), .int .u32 (xc : Int), .int .u32 (xd : Int), .int .u32 (xe : Int), .int .u32 (xf : Int), .int .u32 (xg : Int), .int .u32 (xh : Int)]) (.int .i64 (k : Int))).run Try.prog u = .ok (.int .u32 (y : Int)) u := by
            intro u
            subst hy
            have hk8 : k = 0 ∨ k = 1 ∨ k = 2 ∨ k = 3 ∨ k = 4 ∨ k = 5 ∨ k = 6 ∨ k = 7 := by omega
            rcases hk8 with rfl | rfl | rfl | rfl | rfl | rfl | rfl | rfl <;> rfl
          have HY := Lib.hid hy
          clear hy
          obtain ⟨v, hv⟩ : ∃ v, [s0, s1, s2, s3, s4, s5, s6, s7].getD k 0 = v := ⟨_, rfl⟩
          have cv : wr.cell? ⟨S, k, none⟩ = some (.int .u32 (v : Int)) := by rw [cell_of_row _ _ _ _ _ _ HR.out, ← hv]; exact sumK_get _ _ _ _ _ _ _ _ _ _ _ _ _ _ _ _ k h1
          have fv := frozen_of_row wr S k _ _ HR.out
          have HV := Lib.hid hv
          clear hv
          have k8 : (k : Int) < 8 := by omega
          have k0 : (0 : Int) ≤ k := by omega
          go_wp2_with fail
          go_region
          all_goals
            go_wp2_with fail
            go_roundw
            case rel => exact lrel_step (wr := wr.drew) HR.out (HP.out.trans (Kp.drew (fun _ => False) _) fun _ h => h.elim) h1 HV.out HY.out
            case measure => simp [intOf]; omega
        · obtain rfl : k = 8 := by omega
          go_wp2_with fail
          go_end0
          refine ⟨rfl, ?_, HP.out⟩
          have e : blockF [s0, s1, s2, s3, s4, s5, s6, s7] b = sumK [s0, s1, s2, s3, s4, s5, s6, s7] [xa, xb, xc, xd, xe, xf, xg, xh] 8 := by
            rw [blockF, ← HW.out]
            show sumL _ (run64 W ⟨s0, s1, s2, s3, s4, s5, s6, s7⟩ 64).list = _
            rw [← HX.out]
            rfl
          rw [e]
          exact HR.out

end Go.Proofs.Ytgkdjcednebgoaa
