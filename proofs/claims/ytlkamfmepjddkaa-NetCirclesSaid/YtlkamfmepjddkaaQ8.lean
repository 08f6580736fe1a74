/- Walk: NetPlays. -/
import Derived.Test.YtlkamfmepjddkaaQ7
set_option linter.unusedSimpArgs false
set_option linter.unusedVariables false
namespace Go.Proofs.Ytlkamfmepjddkaa
open Go.RowKit Go.Lib Go.Maps

/-- An act. -/
structure Ac where
  k : Int
  now : Int
  mir : Int
  h : Int
def acCells (a : Ac) : List Value := [.int .i64 a.k, .int .i64 a.now, .int .i64 a.mir, .int .i64 a.h]
def acs (L : List Ac) : List Value := L.flatMap acCells
def ActsArg (w : World) (v : Value) (L : List Ac) : Prop := ∃ sp cap, v = .slice sp L.length cap ∧ Src w 4 sp L.length (acs L)
theorem acCells_len (a : Ac) : (acCells a).length = 4 := rfl
theorem info35s (a : Ac) : (Try.prog.info? 35).map (·.size) = some (acCells a).length := ((by kernel_rfl : (Try.prog.info? 35).map (·.size) = some 4)).trans rfl

/-- What an act does to the state. -/
def doS (s : NS) (a : Ac) : NS := if a.k % 6 < 4 then askS s (a.now.tmod 100000) (mirK a.mir) (hshK a.h) else nextS s
theorem askS_n (s : NS) (now mir : Int) (h : List UInt8) : (askS s now mir h).n = s.n + 1 := by
  unfold askS
  split
  · rfl
  · split <;> rfl
theorem doS_n (s : NS) (a : Ac) : (doS s a).n ≤ s.n + 1 := by
  unfold doS
  split
  · rw [askS_n]; exact Nat.le_refl _
  · exact Nat.le_succ _

theorem do_act {w : World} {B : Nat} {V : NV} {R : RV} {s : NS} (h : DeskP w B V R s s) (a : Ac) (hn : s.n < 100000) :
    Calls Try.prog 12 #[.agg [.pointer (some ⟨V.b, 0, none⟩), .pointer (some ⟨R.b, 0, none⟩)].toArray, .agg (acCells a).toArray] w (DoPost w B V R (doS s a)) := do_any h a.k a.now a.mir a.h hn

/-- A desk's block and both. -/
structure LawAt (W u : World) (x : Nat) (V : NV) (R : RV) (s : NS) : Prop where
  d : DeskP u W.heap.size V R s s
  dx : u.heap[x]? = some (.cells [.pointer (some ⟨V.b, 0, none⟩), .pointer (some ⟨R.b, 0, none⟩)].toArray 31 (0, 0))
  k : Kp (fun q => W.heap.size ≤ q) W u
theorem LawAt.keep0 {W u u' : World} {x : Nat} {V : NV} {R : RV} {s : NS} (h : LawAt W u x V R s) (hk : Kp (fun _ => False) u u') : LawAt W u' x V R s := ⟨h.d.keep0 hk, hk.heap h.dx (fun h => h), h.k.trans hk fun _ h => h.elim⟩
theorem LawAt.act {W u u' : World} {x : Nat} {V : NV} {R : RV} {s s' : NS} {vr vr' : Value} (h : LawAt W u x V R s) (hd : DeskP u' W.heap.size { V with vr := vr } { R with vr := vr' } s' s') (hk : Kp (feet V R) u u') : LawAt W u' x { V with vr := vr } { R with vr := vr' } s' :=
  ⟨hd, hk.heap h.dx (h.d.not_feet h.dx (by decide) (by decide) (by decide) (by decide) (by decide)), h.k.trans hk fun q hq => .inl (h.d.feet_ge hq)⟩
theorem LawAt.c0 {W u : World} {x : Nat} {V : NV} {R : RV} {s : NS} (h : LawAt W u x V R s) : u.cell? ⟨x, 0, none⟩ = some (.pointer (some ⟨V.b, 0, none⟩)) := cell_of_row _ _ 0 _ _ _ h.dx
theorem LawAt.c1 {W u : World} {x : Nat} {V : NV} {R : RV} {s : NS} (h : LawAt W u x V R s) : u.cell? ⟨x, 1, none⟩ = some (.pointer (some ⟨R.b, 0, none⟩)) := cell_of_row _ _ 1 _ _ _ h.dx

def LawPost (W : World) (e : Ending) (w' : World) : Prop := e = .returned (.bool true) ∧ Kp (fun q => W.heap.size ≤ q) W w'

theorem wpList_alloc31 {w : World} {ops : Array Oper} {rest : List Oper} {o : Oper} {a : Act} {Q : Exit → Act → World → Prop} (hgd : o.guard = none) (ho : o.op = .alloc 31)
    (h : ∀ g w' (z : Array Value), z.size = 2 → w'.heap[g]? = some (.cells z 31 (0, 0)) → g = w.heap.size → w'.heap.size = g + 1 → Kp (fun _ => False) w w' → wpList Try.prog ops Q rest (a.put o.dst (.pointer (some ⟨g, 0, none⟩))) w') : wpList Try.prog ops Q (o :: rest) a w := by
  refine wpList_plain hgd fun K hK => ?_
  unfold Oper.wp execOp
  simp only [ho]
  go_simp
  exact hK _ _ (h _ _ _ rfl (heap_alloc_new w _) rfl (by simp) (Kp.alloc _ _ _))
theorem wpList_store31 {w : World} {ops : Array Oper} {rest : List Oper} {o : Oper} {a : Act} {Q : Exit → Act → World → Prop} (hgd : o.guard = none) (x y : Operand) (ho : o.op = .store 31 x y) (g : Nat) (V : NV) (R : RV) (hx : a.eval x = .pointer (some ⟨g, 0, none⟩)) (hy : a.eval y = dskV V R)
    (z : Array Value) (hg : w.heap[g]? = some (.cells z 31 (0, 0))) (hz : z.size = 2)
    (h : ∀ w', w'.heap[g]? = some (.cells [.pointer (some ⟨V.b, 0, none⟩), .pointer (some ⟨R.b, 0, none⟩)].toArray 31 (0, 0)) → Kp (fun k => k = g) w w' → wpList Try.prog ops Q rest (a.put o.dst undef) w') : wpList Try.prog ops Q (o :: rest) a w := by
  refine wpList_store_row hgd 31 x y ho g ([.pointer (some ⟨V.b, 0, none⟩), .pointer (some ⟨R.b, 0, none⟩)] : List Value).toArray hx hy 31 z hg (info31s.trans rfl) hz (all_oneCell_toArray (by intro u hu; simp at hu; rcases hu with rfl | rfl <;> rfl)) (h _ (heap_setRow_same w g z _ 31 hg) ?_)
  exact Kp.grown (grownBy_setRow w g _) fun k e => (Option.some.inj e).symm

/-- Behind begin and the desk's store. -/
theorem law_start {W w2 w3 w4 : World} {g : Nat} {V : NV} {R : RV} {s : NS} (hd : DeskP w2 W.heap.size V R s s) (h02 : Kp (fun _ => False) W w2) (k3 : Kp (fun _ => False) w2 w3) (hg : g = w2.heap.size) (k4 : Kp (fun k => k = g) w3 w4)
    (h4 : w4.heap[g]? = some (.cells [.pointer (some ⟨V.b, 0, none⟩), .pointer (some ⟨R.b, 0, none⟩)].toArray 31 (0, 0))) : LawAt W w4 g V R s :=
  have k24 : Kp (fun _ => False) w2 w4 := (k3.zero.trans k4 fun q h => .inl h : Kp (fun k => k = g) w2 w4).mono fun q h => .inr (by omega)
  ⟨hd.keep0 k24, h4, (h02.trans k24 fun _ h => h.elim).zero⟩

def PlRel (W : World) (x n lim : Nat) (i : Value) (wr : World) : Prop :=
  ∃ (k : Nat) (V : NV) (R : RV) (s : NS), i = .int .i64 (k : Int) ∧ k ≤ n ∧ k ≤ lim ∧ LawAt W wr x V R s ∧ s.n ≤ k

set_option maxRecDepth 100000 in
set_option maxHeartbeats 4000000 in
theorem plays_walk (W : World) (v v1 : Value) (LP LO : List ByteArray) (LS : List (List Bh)) (L : List Ac) (hv : WArg W v LP LO LS) (hl : ActsArg W v1 L) : Calls Try.prog 3 #[v, v1] W (LawPost W) := by
  obtain ⟨sp, cap, rfl, hsrc⟩ := hl
  obtain ⟨n, hn⟩ : ∃ n, n = L.length := ⟨_, rfl⟩
  rw [← hn] at hsrc ⊢
  have HN := Lib.hid hn
  have HSRC := Lib.hid hsrc
  have HV := Lib.hid hv
  obtain ⟨sp1, c1, sp2, c2, sp3, c3, sv, hform, _, _, _⟩ := hv.form
  obtain ⟨q1, hq1⟩ : ∃ q, q = Value.slice sp1 LP.length c1 := ⟨_, rfl⟩
  obtain ⟨q2, hq2⟩ : ∃ q, q = Value.slice sp2 LO.length c2 := ⟨_, rfl⟩
  obtain ⟨q3, hq3⟩ : ∃ q, q = Value.slice sp3 LS.length c3 := ⟨_, rfl⟩
  rw [← hq1, ← hq2, ← hq3] at hform
  obtain ⟨w0, hw0⟩ : ∃ w0, w0 = W.alloc (.cells #[q1, q2, q3] 25) := ⟨_, rfl⟩
  have k0 : Kp (fun _ => False) W w0 := by rw [hw0]; exact Kp.alloc _ _ _
  have hA : w0.heap[W.heap.size]? = some (.cells #[q1, q2, q3] 25 (0, 0)) := by rw [hw0]; exact heap_alloc_new W _
  have K0 := Lib.hid k0
  have HA := Lib.hid hA
  have o1 : q1.oneCell' = true := by rw [hq1]; rfl
  have o2 : q2.oneCell' = true := by rw [hq2]; rfl
  have o3 : q3.oneCell' = true := by rw [hq3]; rfl
  subst hform
  clear hn hsrc hv k0 hA hq1 hq2 hq3
  go_enter Try.func3, Try.ntmps3
  go_wp2_with fail
  rw [← hw0]
  clear hw0
  refine (sanity_any w0).mono ?_
  rintro e w1 ⟨rfl, k1⟩
  have K1 : Hid (Kp (fun _ => False) W w1) := Lib.hid (K0.out.trans k1 fun _ h => h.elim)
  have ar := Lib.hid (range_of_heap (cs := [q1, q2, q3]) (k1.heap HA.out (fun h => h)))
  clear k1
  go_wp2_with (refine wpList_load_mid rfl 25 (.tmp 2) rfl W.heap.size 0 rfl _ _ ar.out Try.underlying25 rfl (by kernel_rfl) ?_)
  refine (begin_any w1 _ LP LO LS (HV.out.keep0 K1.out)).mono ?_
  rintro e w2 ⟨V, R, rfl, hd, k2⟩
  have D2 := Lib.hid (hd.down K1.out.size)
  have K2 : Hid (Kp (fun _ => False) W w2) := Lib.hid (K1.out.trans k2 fun _ h => h.elim)
  clear hd k2
  obtain ⟨st, hst⟩ : ∃ st, st = initS (pkL LP) (pkL LO) (scL LS) := ⟨_, rfl⟩
  rw [← hst] at D2
  have hs0 : st.n = 0 := by rw [hst]; rfl
  have HS0 := Lib.hid hs0
  clear hst hs0
  dsimp only
  go_wp2_with (first
    | (refine wpList_alloc31 rfl rfl ?_; intro x w3 z3 hz3 hg3 eg3 sg3 k3; have HZ3 := Lib.hid hz3; have HG3 := Lib.hid hg3; have EG3 := Lib.hid eg3; have K3 := Lib.hid k3; clear hz3 hg3 eg3 sg3 k3)
    | (refine wpList_store31 rfl (.tmp 6) (.tmp 11) rfl x V R rfl rfl z3 HG3.out HZ3.out ?_; intro w4 hg4 k4; have LA := Lib.hid (law_start D2.out K2.out K3.out EG3.out k4 hg4); have c0 := LA.out.c0; clear hg4 k4))
  clear c0
  go_loopw [7] (fun i wr => PlRel W x n 60 i wr) (fun i _ => n - (Go.RowKit.intOf i).toNat)
  case atStart => exact ⟨0, V, R, st, rfl, Nat.zero_le _, Nat.zero_le _, LA.out, by rw [HS0.out]; exact Nat.le_refl _⟩
  case round =>
    obtain ⟨k, V1, R1, s1, rfl, hk, hk60, hla, hsn⟩ := hrel
    have HL := Lib.hid hla
    clear hla
    by_cases hlt : k < n
    · by_cases h60 : k < 60
      · obtain ⟨ac, hac⟩ : ∃ a, L[k]? = some a := ⟨_, List.getElem?_eq_getElem (by rw [← HN.out]; exact hlt)⟩
        obtain ⟨g, o, rfl, hr⟩ := HSRC.out.2 (by omega)
        have RA : Hid (W.rangeAt g (o + k * 4) (acCells ac)) := Lib.hid (rangeAt_flat acCells 4 L hr k ac (fun _ _ => rfl) hac)
        have hgW : Hid (g < W.heap.size) := Lib.hid (rangeAt_lt RA.out (by rw [acCells_len]; decide))
        have RB : Hid (wr.rangeAt g (o + k * 4) (acCells ac)) := Lib.hid (rangeAt_kp RA.out HL.out.k (by have := hgW.out; show ¬ W.heap.size ≤ g; omega))
        have HI35 := Lib.hid (info35s ac)
        have j0 : (0 : Int) ≤ (k : Int) := by omega
        have j1 : (k : Int) < (n : Int) := by omega
        have j60 : (k : Int) < 60 := by omega
        have RX := Lib.hid (range_of_heap HL.out.dx)
        clear hac hr
        go_wp2_with fail
        refine wp_region_held_drew (S := fun u => u.rangeAt x 0 [.pointer (some ⟨V1.b, 0, none⟩), .pointer (some ⟨R1.b, 0, none⟩)] ∧ u.rangeAt g (o + k * 4) (acCells ac)) (by kernel_rfl) (⟨RX.out, RB.out⟩) (fun hHeld => ?_)
        refine wpAnyH_take (i := 0) (v := _) rfl (by kernel_rfl) (by kernel_rfl) (by kernel_rfl) (fun _ _ _ h => h) (yieldsIf_load_mid (by rfl) _ _ rfl _ _ rfl _ _ (fun _ h => h.1) Try.underlying31 rfl (by kernel_rfl)) (by assumption) ?_
        simp only [Act.put, List.getElem_toArray, List.getElem_cons_succ, List.getElem_cons_zero, List.setIfInBounds_toArray, List.set_cons_zero, List.set_cons_succ]
        refine wpAnyH_take (i := 1) (v := ?v1) rfl (by kernel_rfl) (by kernel_rfl) (by kernel_rfl) (fun _ _ _ h => h) (Or.inl ⟨by rfl, ?y1⟩) (by assumption) ?r1
        case y1 =>
          intro wq hSw
          clear hSw
          go_simp
          with_reducible rfl
        simp only [Act.put, List.getElem_toArray, List.getElem_cons_succ, List.getElem_cons_zero, List.setIfInBounds_toArray, List.set_cons_zero, List.set_cons_succ]
        refine wpAnyH_take (i := 2) (v := ?v2) rfl (by kernel_rfl) (by kernel_rfl) (by kernel_rfl) (fun _ _ _ h => h) (Or.inl ⟨by rfl, ?y2⟩) (by assumption) ?r2
        case y2 =>
          intro wq hSw
          clear hSw
          go_simp
          with_reducible rfl
        simp only [Act.put, List.getElem_toArray, List.getElem_cons_succ, List.getElem_cons_zero, List.setIfInBounds_toArray, List.set_cons_zero, List.set_cons_succ]
        refine wpAnyH_take (i := 3) (v := ?v3) rfl (by kernel_rfl) (by kernel_rfl) (by kernel_rfl) (fun _ _ _ h => h) (Or.inl ⟨by rfl, ?y3⟩) (by assumption) ?r3
        case y3 =>
          intro wq hSw
          clear hSw
          go_simp
          with_reducible rfl
        simp only [Act.put, List.getElem_toArray, List.getElem_cons_succ, List.getElem_cons_zero, List.setIfInBounds_toArray, List.set_cons_zero, List.set_cons_succ]
        refine wpAnyH_take (i := 4) (v := _) rfl (by kernel_rfl) (by kernel_rfl) (by kernel_rfl) (fun _ _ _ h => h) (yieldsIf_load_mid (by rfl) _ _ rfl _ _ rfl _ _ (fun _ h => h.2) Try.underlying35 rfl HI35.out) (by assumption) ?_
        simp only [Act.put, List.getElem_toArray, List.getElem_cons_succ, List.getElem_cons_zero, List.setIfInBounds_toArray, List.set_cons_zero, List.set_cons_succ]
        refine wpAnyH_ready (rs := [5]) (by kernel_rfl) (by simp) ?_
        refine AllReadyH.cons rfl (fun K hK => ?_) AllReadyH.nil
        rw [if_pos (by rfl)]
        go_simp
        refine (do_act (HL.out.keep0 (Kp.drew _ _)).d ac (by omega)).mono ?_
        rintro e w5 ⟨rfl, vr5, vr6, hd5, k5⟩
        have L5 := Lib.hid ((HL.out.keep0 (Kp.drew _ _)).act hd5 k5)
        have RB5 := Lib.hid (rangeAt_kp RA.out L5.out.k (by have := hgW.out; show ¬ W.heap.size ≤ g; omega))
        clear hd5 k5
        dsimp only
        refine hK.out _ _ (⟨range_of_heap L5.out.dx, RB5.out⟩) (fun hHeld => ?_)
        clear hK K
        refine wpAnyH_take (i := 6) (v := ?v4) rfl (by kernel_rfl) (by kernel_rfl) (by kernel_rfl) (fun _ _ _ h => h) (Or.inl ⟨by rfl, ?y4⟩) (by assumption) ?r4
        case y4 =>
          intro wq hSw
          clear hSw
          go_simp
          with_reducible rfl
        simp only [Act.put, List.getElem_toArray, List.getElem_cons_succ, List.getElem_cons_zero, List.setIfInBounds_toArray, List.set_cons_zero, List.set_cons_succ]
        refine wpAnyH_done (by kernel_rfl) ?_ _
        go_wp2_with fail
        go_roundw
        case rel => exact ⟨k + 1, _, _, doS s1 ac, by simp, by omega, by omega, L5.out, by have := doS_n s1 ac; omega⟩
        case measure => simp [Go.RowKit.intOf]; omega
      · have h66 : k = 60 := by omega
        subst h66
        clear h60
        go_wp2_with fail
        go_ret
        exact ⟨rfl, HL.out.k⟩
    · have hjn : k = n := by omega
      subst hjn
      go_wp2_with fail
      go_ret
      exact ⟨rfl, HL.out.k⟩

end Go.Proofs.Ytlkamfmepjddkaa
