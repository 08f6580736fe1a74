/- Walk: NetNumbers. -/
import Derived.Test.YtlkamfmepjddkaaQ9
import Derived.Test.YtlkamfmepjddkaaL2
set_option linter.unusedSimpArgs false
set_option linter.unusedVariables false
namespace Go.Proofs.Ytlkamfmepjddkaa
open Go.RowKit Go.Lib Go.Maps

/-- A desk of which only the net goes on. -/
structure LawN (W u : World) (x : Nat) (V : NV) (rb : Nat) (s : NS) : Prop where
  n : NetP u W.heap.size V s
  dx : u.heap[x]? = some (.cells [.pointer (some ⟨V.b, 0, none⟩), .pointer (some ⟨rb, 0, none⟩)].toArray 31 (0, 0))
  k : Kp (fun q => W.heap.size ≤ q) W u
theorem LawN.keep0 {W u u' : World} {x : Nat} {V : NV} {rb : Nat} {s : NS} (h : LawN W u x V rb s) (hk : Kp (fun _ => False) u u') : LawN W u' x V rb s := ⟨h.n.keep0 hk, hk.heap h.dx (fun h => h), h.k.trans hk fun _ h => h.elim⟩
theorem LawN.step {W u u' : World} {x : Nat} {V : NV} {rb : Nat} {s s' : NS} {vr : Value} (h : LawN W u x V rb s) (hn : NetP u' W.heap.size { V with vr := vr } s') (hk : Kp V.foot u u') : LawN W u' x { V with vr := vr } rb s' :=
  ⟨hn, hk.heap h.dx (h.n.not_foot h.dx (by decide) (by decide) (by decide)), h.k.trans hk fun q hq => .inl (h.n.dom_lt (NV.foot_dom hq)).1⟩
theorem LawN.c0 {W u : World} {x : Nat} {V : NV} {rb : Nat} {s : NS} (h : LawN W u x V rb s) : u.cell? ⟨x, 0, none⟩ = some (.pointer (some ⟨V.b, 0, none⟩)) := cell_of_row _ _ 0 _ _ _ h.dx
theorem LawAt.toN {W u : World} {x : Nat} {V : NV} {R : RV} {s : NS} (h : LawAt W u x V R s) : LawN W u x V R.b s := ⟨h.d.n, h.dx, h.k⟩

/-- No block of a net's has another type. -/
theorem NetP.not_dom {w : World} {B : Nat} {V : NV} {s : NS} (h : NetP w B V s) {k : Nat} {cs : Array Value} {t : TypeId} {fr : Nat × Nat} (hk : w.heap[k]? = some (.cells cs t fr)) (h1 : t ≠ 71) (h2 : t ≠ 54) (h3 : t ≠ 80) (h4 : t ≠ 50) (h5 : t ≠ 83) (h6 : t ≠ 42) : ¬ V.dom k := by
  have row : ∀ {e : TypeId} {sz n B : Nat} {v : Value} {xs : List Value}, w.ownsRow B e sz v n xs → t ≠ e → v.ownBlock ≠ some k := fun ho hne hq => by
    obtain ⟨_, _, cur, hc⟩ := ownsRow_block ho hq
    rw [hc] at hk; cases hk; exact hne rfl
  rintro (rfl | e | e | e | e | e | ⟨m, hm, e⟩)
  · rw [h.obj] at hk; cases hk; exact h1 rfl
  · exact row h.pk h2 e
  · exact row h.old h2 e
  · rcases h.mp with ⟨e2, _⟩ | ⟨g, n, e2, _, hq⟩
    · rw [e2] at e; cases e
    · rw [e2] at e; cases e
      obtain ⟨D, ⟨es, clock, hb, _⟩, _⟩ := hq
      rw [hb] at hk; cases hk
  · exact row h.mir h3 e
  · exact row h.rep h4 e
  · obtain ⟨_, _, _, _, _, _, M⟩ := h.mirAt hm
    rcases e with rfl | e
    · obtain ⟨c, hc, _⟩ := M.cnt
      rw [hc] at hk; cases hk; exact h5 rfl
    · exact row M.scr h6 e

def rqOf (a : Ac) : List Value := reqL (mirK a.mir) (hshK a.h)
def rqs (L : List Ac) : List Value := L.flatMap rqOf
theorem rqOf_len (a : Ac) : (rqOf a).length = 33 := reqL_len _ _ (hshK_len _)
theorem rqs_take (L : List Ac) (k : Nat) (a : Ac) (h : L[k]? = some a) : rqs (L.take (k + 1)) = rqs (L.take k) ++ rqOf a := by
  obtain ⟨hlt, he⟩ := List.getElem?_eq_some_iff.1 h
  rw [List.take_succ_eq_append_getElem hlt, he]
  simp [rqs]
def msOf (L : List Ac) : List Int := L.map fun a => mirK a.mir
theorem msOf_take (L : List Ac) (k : Nat) (a : Ac) (h : L[k]? = some a) : msOf (L.take (k + 1)) = msOf (L.take k) ++ [mirK a.mir] := by
  obtain ⟨hlt, he⟩ := List.getElem?_eq_some_iff.1 h
  rw [List.take_succ_eq_append_getElem hlt, he]
  simp [msOf]

theorem info46f : (Try.prog.info? 46).map (fun i => (i.zero, i.size, i.bytes)) = some (some (.agg (.int .i64 0 :: List.replicate 32 (Value.int .u8 0)).toArray), 33, 40) := by kernel_rfl
theorem wpList_lit67 {w : World} {ops : Array Oper} {rest : List Oper} {o : Oper} {a : Act} {Q : Exit → Act → World → Prop} (hgd : o.guard = none) (x : Operand) (ho : o.op = .buildSlice 67 1 #[(0, x)]) (cs : List Value) (hx : a.eval x = .agg cs.toArray) (hl : cs.length = 33)
    (h : ∀ g w', w'.heap[g]? = some (.cells cs.toArray 46 (0, 0)) → g = w.heap.size → w'.heap.size = g + 1 → Kp (fun _ => False) w w' → wpList Try.prog ops Q rest (a.put o.dst (.slice (some ⟨g, 0, none⟩) 1 1)) w') : wpList Try.prog ops Q (o :: rest) a w := by
  obtain ⟨i0, hi, hz0, hz1, hz2⟩ := info_parts info46f
  have hf := Great.fill_whole (s := 33) (by decide) [Value.agg cs.toArray] ((Array.range (1 * i0.size)).map ((Value.agg (.int .i64 0 :: List.replicate 32 (Value.int .u8 0)).toArray).cells[· % (Value.agg (.int .i64 0 :: List.replicate 32 (Value.int .u8 0)).toArray).cells.size]!)) (by intro v hv; simp at hv; subst hv; simpa [Value.cells] using hl) (by simp [hz1])
  refine wpList_buildSlice hgd 67 46 1 #[(0, x)] ho cs.toArray i0 _ Try.underlying67 hi hz0 (by rw [hz1]; omega) (by rw [hz1]; omega) ?_ (h _ _ (heap_alloc_new w _) rfl (by simp) (Kp.alloc _ _ _))
  rw [hz1]
  rw [hz1] at hf
  simpa [hx, Value.cells] using hf

def NuRel1 (W : World) (x rb : Nat) (L : List Ac) (i acc : Value) (wr : World) : Prop :=
  ∃ (k : Nat) (sp : Option Addr) (d : Nat) (V : NV) (s : NS), i = .int .i64 (k : Int) ∧ k ≤ L.length ∧ k ≤ 40 ∧ acc = .slice sp k d ∧ LawN W wr x V rb s ∧ s.n = k ∧ NumOk (msOf (L.take k)) s.replies ∧ s.replies.length ≤ 2 * k ∧ wr.ownsRow W.heap.size 46 33 (.slice sp k d) k (rqs (L.take k))
def NuRel2 (W : World) (x rb : Nat) (l : List Ac) (v : Value) (k : Nat) (i : Value) (wr : World) : Prop :=
  ∃ (j : Nat) (V : NV) (s : NS), i = .int .i64 (j : Int) ∧ j ≤ 80 ∧ LawN W wr x V rb s ∧ NumOk (msOf l) s.replies ∧ s.replies.length + j ≤ 80 ∧ wr.ownsRow W.heap.size 46 33 v k (rqs l)
theorem rq_cell {w : World} {B k d : Nat} {sq : Option Addr} {l : List Ac} (ho : w.ownsRow B 46 33 (.slice sq k d) k (rqs l)) (hk : l.length = k) {j : Nat} {mir : Int} (h : (msOf l)[j]? = some mir) :
    ∃ g, sq = some ⟨g, 0, none⟩ ∧ w.cell? ⟨g, j * 33, none⟩ = some (.int .i64 mir) ∧ j < k := by
  rw [msOf, List.getElem?_map] at h
  obtain ⟨a, ha, rfl⟩ := Option.map_eq_some_iff.1 h
  have hjk : j < k := by rw [← hk]; exact (List.getElem?_eq_some_iff.1 ha).1
  obtain ⟨g, e, _, hr, _⟩ := own_cells ho (by omega)
  refine ⟨g, e, ?_, hjk⟩
  have := hr (j * 33) (.int .i64 (mirK a.mir)) (by
    have := flat_at rqOf 33 l j a (fun q _ => rqOf_len q) ha 0 (by decide)
    rw [Nat.add_zero] at this
    rw [rqs, this]
    rfl)
  rwa [Nat.zero_add] at this

set_option maxRecDepth 100000 in
set_option maxHeartbeats 8000000 in
theorem numbers_walk (W : World) (v v1 : Value) (LP LO : List ByteArray) (LS : List (List Bh)) (L : List Ac) (hv : WArg W v LP LO LS) (hl : ActsArg W v1 L) : Calls Try.prog 8 #[v, v1] W (LawPost W) := by
  obtain ⟨i46, hi46, hza, hzb, hzc⟩ := info_parts info46f
  obtain ⟨z46, hz46⟩ : ∃ z, z = (Value.agg (.int .i64 0 :: List.replicate 32 (Value.int .u8 0)).toArray) := ⟨_, rfl⟩
  rw [← hz46] at hza
  have ZC : Hid (z46.cells.size = 33) := Lib.hid (by rw [hz46]; kernel_rfl)
  clear hz46
  obtain ⟨sp, cap, rfl, hsrc⟩ := hl
  obtain ⟨n, hn⟩ : ∃ n, n = L.length := ⟨_, rfl⟩
  rw [← hn] at hsrc ⊢
  have HN := Lib.hid hn
  have HSRC := Lib.hid hsrc
  have HV := Lib.hid hv
  obtain ⟨sp1, c1, sp2, c2, sp3, c3, sv, hform, _, _, _⟩ := hv.form
  obtain ⟨q1, hq1⟩ : ∃ q, q = Value.slice sp1 LP.length c1 := ⟨_, rfl⟩
  obtain ⟨q2, hq2⟩ : ∃ q, q = Value.slice sp2 LO.length c2 := ⟨_, rfl⟩
  obtain ⟨q3, hq3⟩ : ∃ q, q = Value.slice sp3 LS.length c3 := ⟨_, rfl⟩
  rw [← hq1, ← hq2, ← hq3] at hform
  obtain ⟨w0, hw0⟩ : ∃ w0, w0 = W.alloc (.cells #[q1, q2, q3] 25) := ⟨_, rfl⟩
  have k0 : Kp (fun _ => False) W w0 := by rw [hw0]; exact Kp.alloc _ _ _
  have hA : w0.heap[W.heap.size]? = some (.cells #[q1, q2, q3] 25 (0, 0)) := by rw [hw0]; exact heap_alloc_new W _
  have K0 := Lib.hid k0
  have HA := Lib.hid hA
  have o1 : q1.oneCell' = true := by rw [hq1]; rfl
  have o2 : q2.oneCell' = true := by rw [hq2]; rfl
  have o3 : q3.oneCell' = true := by rw [hq3]; rfl
  subst hform
  clear hn hsrc hv k0 hA hq1 hq2 hq3
  go_enter Try.func8, Try.ntmps8
  go_wp2_with fail
  rw [← hw0]
  clear hw0
  refine (sanity_any w0).mono ?_
  rintro e w1 ⟨rfl, k1⟩
  have K1 : Hid (Kp (fun _ => False) W w1) := Lib.hid (K0.out.trans k1 fun _ h => h.elim)
  have ar := Lib.hid (range_of_heap (cs := [q1, q2, q3]) (k1.heap HA.out (fun h => h)))
  clear k1
  go_wp2_with (refine wpList_load_mid rfl 25 (.tmp 2) rfl W.heap.size 0 rfl _ _ ar.out Try.underlying25 rfl (by kernel_rfl) ?_)
  refine (begin_any w1 _ LP LO LS (HV.out.keep0 K1.out)).mono ?_
  rintro e w2 ⟨V, R, rfl, hd, k2⟩
  have D2 := Lib.hid (hd.down K1.out.size)
  have K2 : Hid (Kp (fun _ => False) W w2) := Lib.hid (K1.out.trans k2 fun _ h => h.elim)
  clear hd k2
  obtain ⟨st, hst⟩ : ∃ st, st = initS (pkL LP) (pkL LO) (scL LS) := ⟨_, rfl⟩
  rw [← hst] at D2
  have hs0 : st.n = 0 := by rw [hst]; rfl
  have hsr : st.replies = [] := by rw [hst]; rfl
  have HS0 := Lib.hid hs0
  have HSR := Lib.hid hsr
  clear hst hs0 hsr
  dsimp only
  go_wp2_with (first
    | (refine wpList_alloc31 rfl rfl ?_; intro x w3 z3 hz3 hg3 eg3 sg3 k3; have HZ3 := Lib.hid hz3; have HG3 := Lib.hid hg3; have EG3 := Lib.hid eg3; have K3 := Lib.hid k3; clear hz3 hg3 eg3 sg3 k3)
    | (refine wpList_store31 rfl (.tmp 6) (.tmp 14) rfl x V R rfl rfl z3 HG3.out HZ3.out ?_; intro w4 hg4 k4; have LA := Lib.hid (law_start D2.out K2.out K3.out EG3.out k4 hg4); have c0 := LA.out.c0; clear hg4 k4))
  clear c0
  have HNR := Lib.hid LA.out.toN
  obtain ⟨rb, hrb⟩ : ∃ rb, rb = R.b := ⟨_, rfl⟩
  rw [← hrb] at HNR
  have c0 := HNR.out.c0
  clear hrb c0
  go_loopw [8, 7] (fun i acc wr => NuRel1 W x rb L i acc wr) (fun i _ _ => n - (Go.RowKit.intOf i).toNat)
  case atStart => exact ⟨0, none, 0, V, st, rfl, Nat.zero_le _, Nat.zero_le _, rfl, HNR.out, HS0.out, (by rw [HSR.out]; intro r hr; cases hr), (by rw [HSR.out]; exact Nat.le_refl _), ⟨rfl, .inl ⟨rfl, rfl⟩⟩⟩
  case round =>
    obtain ⟨k, sq, d, V1, s1, rfl, hk, hk40, rfl, hla, hsn, hnu, hrl, ho⟩ := hrel
    rw [← HN.out] at hk
    have HL := Lib.hid hla
    have HNU := Lib.hid hnu
    have HO := Lib.hid ho
    have HSN := Lib.hid hsn
    clear hla hnu ho hsn
    by_cases hlt : k < n
    · by_cases h40 : k < 40
      · obtain ⟨ac, hac⟩ : ∃ a, L[k]? = some a := ⟨_, List.getElem?_eq_getElem (by rw [← HN.out]; exact hlt)⟩
        obtain ⟨g, o, rfl, hr⟩ := HSRC.out.2 (by omega)
        have RA : Hid (W.rangeAt g (o + k * 4) (acCells ac)) := Lib.hid (rangeAt_flat acCells 4 L hr k ac (fun _ _ => rfl) hac)
        have hgW : Hid (g < W.heap.size) := Lib.hid (rangeAt_lt RA.out (by rw [acCells_len]; decide))
        have RB : Hid (wr.rangeAt g (o + k * 4) (acCells ac)) := Lib.hid (rangeAt_kp RA.out HL.out.k (by have := hgW.out; show ¬ W.heap.size ≤ g; omega))
        have HI35 := Lib.hid (info35s ac)
        have HAC := Lib.hid hac
        have j0 : (0 : Int) ≤ (k : Int) := by omega
        have j1 : (k : Int) < (n : Int) := by omega
        have j40 : (k : Int) < 40 := by omega
        have hwk : IntKind.i64.wrap ((k : Int) + 1) = (k : Int) + 1 := IntWalk.i64_in _ (by omega)
        obtain ⟨nw, hnw⟩ : ∃ y, y = ac.now.tmod 1000 := ⟨_, rfl⟩
        have hb := tmod_bd ac.now 1000 (by omega)
        have hb1 : -1000000 ≤ nw ∧ nw ≤ 1000000 := by omega
        have HNW := Lib.hid hnw
        clear hac hr hnw hb
        go_wp2_with fail
        refine wp_region_held_drew (S := fun u => u.rangeAt x 0 [.pointer (some ⟨V1.b, 0, none⟩), .pointer (some ⟨rb, 0, none⟩)] ∧ u.rangeAt g (o + k * 4) (acCells ac)) (by kernel_rfl) (⟨range_of_heap HL.out.dx, RB.out⟩) (fun hHeld => ?_)
        refine wpAnyH_take (i := 0) (v := ?v1) rfl (by kernel_rfl) (by kernel_rfl) (by kernel_rfl) (fun _ _ _ h => h) (Or.inl ⟨by rfl, ?y1⟩) (by assumption) ?r1
        case y1 =>
          intro wq hSw
          clear hSw
          go_simp
          with_reducible rfl
        simp only [Act.put, List.getElem_toArray, List.getElem_cons_succ, List.getElem_cons_zero, List.setIfInBounds_toArray, List.set_cons_zero, List.set_cons_succ]
        refine wpAnyH_take (i := 1) (v := ?v2) rfl (by kernel_rfl) (by kernel_rfl) (by kernel_rfl) (fun _ _ _ h => h) (Or.inl ⟨by rfl, ?y2⟩) (by assumption) ?r2
        case y2 =>
          intro wq hSw
          have q0 := hSw.1 0 _ rfl
          clear hSw
          go_simp
          with_reducible rfl
        simp only [Act.put, List.getElem_toArray, List.getElem_cons_succ, List.getElem_cons_zero, List.setIfInBounds_toArray, List.set_cons_zero, List.set_cons_succ]
        refine wpAnyH_take (i := 2) (v := ?v3) rfl (by kernel_rfl) (by kernel_rfl) (by kernel_rfl) (fun _ _ _ h => h) (Or.inl ⟨by rfl, ?y3⟩) (by assumption) ?r3
        case y3 =>
          intro wq hSw
          clear hSw
          go_simp
          with_reducible rfl
        simp only [Act.put, List.getElem_toArray, List.getElem_cons_succ, List.getElem_cons_zero, List.setIfInBounds_toArray, List.set_cons_zero, List.set_cons_succ]
        refine wpAnyH_take (i := 3) (v := ?v4) rfl (by kernel_rfl) (by kernel_rfl) (by kernel_rfl) (fun _ _ _ h => h) (Or.inl ⟨by rfl, ?y4⟩) (by assumption) ?r4
        case y4 =>
          intro wq hSw
          clear hSw
          go_simp
          with_reducible rfl
        simp only [Act.put, List.getElem_toArray, List.getElem_cons_succ, List.getElem_cons_zero, List.setIfInBounds_toArray, List.set_cons_zero, List.set_cons_succ]
        refine wpAnyH_take (i := 4) (v := ?v5) rfl (by kernel_rfl) (by kernel_rfl) (by kernel_rfl) (fun _ _ _ h => h) (Or.inl ⟨by rfl, ?y5⟩) (by assumption) ?r5
        case y5 =>
          intro wq hSw
          clear hSw
          go_simp
          with_reducible rfl
        simp only [Act.put, List.getElem_toArray, List.getElem_cons_succ, List.getElem_cons_zero, List.setIfInBounds_toArray, List.set_cons_zero, List.set_cons_succ]
        refine wpAnyH_take (i := 5) (v := ?v6) rfl (by kernel_rfl) (by kernel_rfl) (by kernel_rfl) (fun _ _ _ h => h) (Or.inl ⟨by rfl, ?y6⟩) (by assumption) ?r6
        case y6 =>
          intro wq hSw
          clear hSw
          go_simp
          with_reducible rfl
        simp only [Act.put, List.getElem_toArray, List.getElem_cons_succ, List.getElem_cons_zero, List.setIfInBounds_toArray, List.set_cons_zero, List.set_cons_succ]
        refine wpAnyH_take (i := 6) (v := ?v7) rfl (by kernel_rfl) (by kernel_rfl) (by kernel_rfl) (fun _ _ _ h => h) (Or.inl ⟨by rfl, ?y7⟩) (by assumption) ?r7
        case y7 =>
          intro wq hSw
          have q0 := hSw.2 1 _ rfl
          clear hSw
          go_simp
          with_reducible rfl
        simp only [Act.put, List.getElem_toArray, List.getElem_cons_succ, List.getElem_cons_zero, List.setIfInBounds_toArray, List.set_cons_zero, List.set_cons_succ]
        refine wpAnyH_take (i := 7) (v := ?v8) rfl (by kernel_rfl) (by kernel_rfl) (by kernel_rfl) (fun _ _ _ h => h) (Or.inl ⟨by rfl, ?y8⟩) (by assumption) ?r8
        case y8 =>
          intro wq hSw
          clear hSw
          go_simp
          rw [← HNW.out]
        simp only [Act.put, List.getElem_toArray, List.getElem_cons_succ, List.getElem_cons_zero, List.setIfInBounds_toArray, List.set_cons_zero, List.set_cons_succ]
        refine wpAnyH_take (i := 8) (v := ?v9) rfl (by kernel_rfl) (by kernel_rfl) (by kernel_rfl) (fun _ _ _ h => h) (Or.inl ⟨by rfl, ?y9⟩) (by assumption) ?r9
        case y9 =>
          intro wq hSw
          clear hSw
          go_simp
          with_reducible rfl
        simp only [Act.put, List.getElem_toArray, List.getElem_cons_succ, List.getElem_cons_zero, List.setIfInBounds_toArray, List.set_cons_zero, List.set_cons_succ]
        refine wpAnyH_take (i := 9) (v := ?v10) rfl (by kernel_rfl) (by kernel_rfl) (by kernel_rfl) (fun _ _ _ h => h) (Or.inl ⟨by rfl, ?y10⟩) (by assumption) ?r10
        case y10 =>
          intro wq hSw
          clear hSw
          go_simp
          with_reducible rfl
        simp only [Act.put, List.getElem_toArray, List.getElem_cons_succ, List.getElem_cons_zero, List.setIfInBounds_toArray, List.set_cons_zero, List.set_cons_succ]
        refine wpAnyH_take (i := 10) (v := ?v11) rfl (by kernel_rfl) (by kernel_rfl) (by kernel_rfl) (fun _ _ _ h => h) (Or.inl ⟨by rfl, ?y11⟩) (by assumption) ?r11
        case y11 =>
          intro wq hSw
          clear hSw
          go_simp
          with_reducible rfl
        simp only [Act.put, List.getElem_toArray, List.getElem_cons_succ, List.getElem_cons_zero, List.setIfInBounds_toArray, List.set_cons_zero, List.set_cons_succ]
        refine wpAnyH_take (i := 11) (v := _) rfl (by kernel_rfl) (by kernel_rfl) (by kernel_rfl) (fun _ _ _ h => h) (yieldsIf_load_mid (by rfl) _ _ rfl _ _ rfl _ _ (fun _ h => h.2) Try.underlying35 rfl HI35.out) (by assumption) ?_
        simp only [Act.put, List.getElem_toArray, List.getElem_cons_succ, List.getElem_cons_zero, List.setIfInBounds_toArray, List.set_cons_zero, List.set_cons_succ]
        refine wpAnyH_take (i := 14) (v := ?v12) rfl (by kernel_rfl) (by kernel_rfl) (by kernel_rfl) (fun _ _ _ h => h) (Or.inl ⟨by rfl, ?y12⟩) (by assumption) ?r12
        case y12 =>
          intro wq hSw
          clear hSw
          go_simp
          with_reducible rfl
        simp only [Act.put, List.getElem_toArray, List.getElem_cons_succ, List.getElem_cons_zero, List.setIfInBounds_toArray, List.set_cons_zero, List.set_cons_succ]
        refine wpAnyH_take (i := 15) (v := ?v13) rfl (by kernel_rfl) (by kernel_rfl) (by kernel_rfl) (fun _ _ _ h => h) (Or.inl ⟨by rfl, ?y13⟩) (by assumption) ?r13
        case y13 =>
          intro wq hSw
          clear hSw
          go_simp
          with_reducible rfl
        simp only [Act.put, List.getElem_toArray, List.getElem_cons_succ, List.getElem_cons_zero, List.setIfInBounds_toArray, List.set_cons_zero, List.set_cons_succ]
        refine wpAnyH_ready (rs := [12]) (by kernel_rfl) (by simp) ?_
        refine AllReadyH.cons rfl (fun K hK => ?_) AllReadyH.nil
        have HS1 := Lib.hid hHeld
        rw [if_pos (by rfl)]
        go_simp
        refine (request_any ac.k ac.now ac.mir ac.h _).mono ?_
        rintro e w5 ⟨rfl, k5⟩
        have k5b := (Kp.drew (fun _ => False) wr).trans k5 fun _ (h : False) => h.elim
        have L5 := Lib.hid (HL.out.keep0 k5b)
        have O5 := Lib.hid (k5b.own HO.out fun _ _ h => h)
        have RB5 := Lib.hid (rangeAt_kp RB.out k5b (fun h => h))
        clear k5 k5b
        obtain ⟨rq, hrq⟩ : ∃ r, r = reqV (mirK ac.mir) (hshK ac.h) := ⟨_, rfl⟩
        rw [← hrq]
        have HRQ := Lib.hid hrq
        clear hrq
        dsimp only
        refine hK.out _ _ (⟨range_of_heap L5.out.dx, RB5.out⟩) (fun hHeld => ?_)
        clear hK K
        refine wpAnyH_ready (rs := [13]) (by kernel_rfl) (by simp) ?_
        refine AllReadyH.cons rfl (fun K hK => ?_) AllReadyH.nil
        rw [if_pos (by rfl)]
        go_simp
        rw [HRQ.out]
        refine (ask_at L5.out.n nw (mirK ac.mir) (hshK ac.h) (hshK_len ac.h) ((k : Int) + 1) (by rw [HSN.out]) (by have := HSN.out; omega) hb1).mono ?_
        rintro e w6 ⟨rfl, vr6, hn6, k6, l6⟩
        rw [← HRQ.out]
        have L6 := Lib.hid (L5.out.step hn6 k6)
        have O6 := Lib.hid (k6.own O5.out (L5.out.n.own_foot O5.out (by decide) (by decide) (by decide)))
        have RB6 := Lib.hid (rangeAt_kp RB5.out k6 (fun hf => by have := (L5.out.n.dom_lt (NV.foot_dom hf)).1; have := hgW.out; omega))
        clear hn6 k6 l6
        dsimp only
        refine hK.out _ _ (⟨range_of_heap L6.out.dx, RB6.out⟩) (fun hHeld => ?_)
        clear hK K
        refine wpAnyH_take (i := 16) (v := ?v14) rfl (by kernel_rfl) (by kernel_rfl) (by kernel_rfl) (fun _ _ _ h => h) (Or.inl ⟨by rfl, ?y14⟩) (by assumption) ?r14
        case y14 =>
          intro wq hSw
          clear hSw
          go_simp
          with_reducible rfl
        simp only [Act.put, List.getElem_toArray, List.getElem_cons_succ, List.getElem_cons_zero, List.setIfInBounds_toArray, List.set_cons_zero, List.set_cons_succ]
        refine wpAnyH_done (by kernel_rfl) ?_ _
        go_wp2_with (first
          | (refine wpList_load_mid rfl 35 (.tmp 48) rfl g (o + k * 4) rfl (acCells ac) _ RB6.out Try.underlying35 rfl HI35.out ?_))
        refine (request_any ac.k ac.now ac.mir ac.h _).mono ?_
        rintro e w7 ⟨rfl, k7⟩
        have L7 := Lib.hid (L6.out.keep0 k7)
        have O7 := Lib.hid (k7.own O6.out fun _ _ h => h)
        clear k7
        dsimp only
        go_wp2_with (first
          | (refine wpList_lit67 rfl (.tmp 50) rfl (rqOf ac) rfl (rqOf_len ac) ?_; intro g8 w8 hg8 eg8 sg8 k8; have HG8 := Lib.hid hg8; have L8 := Lib.hid (L7.out.keep0 k8); have O8 := Lib.hid (k8.own O7.out fun _ _ h => h); clear hg8 eg8 sg8 k8)
          | (refine wpList_append_src _ rfl (.tmp 45) (.tmp 51) 67 rfl W.heap.size 46 i46 z46 33 40 Try.underlying67 hi46 hza hzb hzc ZC.out (by decide) (.slice sq k d) k (rqs (L.take k)) rfl O8.out (some ⟨g8, 0, none⟩) 1 1 (rqOf ac) rfl ⟨rqOf_len ac, fun _ => ⟨g8, 0, rfl, range_of_heap HG8.out⟩⟩ (reqL_one _ _) (by unfold maxLen; omega) (by omega) L8.out.k.size ?_; intro v9 w9 own9 grow9 _loc9; obtain ⟨s9, d9, hv9, _, _, _, _⟩ := Src.of_own own9; subst hv9; have O9 := Lib.hid own9; have k9 := Lib.hid (Kp.grown (F := fun q => (Value.slice sq k d).ownBlock = some q) grow9 fun q hq => hq); clear own9 grow9 _loc9))
        have L9 : LawN W w9 x { V1 with vr := vr6 } rb (askS s1 nw (mirK ac.mir) (hshK ac.h)) := by
          refine ⟨L8.out.n.keep k9.out fun q hd hq => ?_, k9.out.heap L8.out.dx fun hq => ?_, L8.out.k.trans k9.out fun q hq => .inl (ownsRow_block O8.out hq).1⟩
          · obtain ⟨_, _, cur, hc⟩ := ownsRow_block O8.out hq
            exact L8.out.n.not_dom hc (by decide) (by decide) (by decide) (by decide) (by decide) (by decide) hd
          · exact other_type O8.out L8.out.dx (by decide) hq
        go_roundw
        case rel =>
          refine ⟨k + 1, s9, d9, _, _, by simp, by rw [← HN.out]; omega, by omega, rfl, L9, by rw [askS_n, HSN.out], ?_, ?_, ?_⟩
          · rw [msOf_take L k ac HAC.out]
            refine HNU.out.ask ?_ nw (mirK ac.mir) (hshK ac.h)
            rw [HSN.out, msOf, List.length_map, List.length_take]
            have := HN.out
            omega
          · have := askS_len s1 nw (mirK ac.mir) (hshK ac.h)
            omega
          · rw [rqs_take L k ac HAC.out]
            exact O9.out
        case measure => simp [Go.RowKit.intOf]; omega
      · have h44 : k = 40 := by omega
        subst h44
        clear h40
        go_wp2_with fail
        obtain ⟨lk, hlk⟩ : ∃ l, l = L.take 40 := ⟨_, rfl⟩
        have HLK : Hid (lk.length = 40) := Lib.hid (by rw [hlk, List.length_take]; have := HN.out; omega)
        have HNU1 : Hid (NumOk (msOf lk) s1.replies) := Lib.hid (by rw [hlk]; exact HNU.out)
        have HO1 : Hid (wr.ownsRow W.heap.size 46 33 (.slice sq 40 d) 40 (rqs lk)) := Lib.hid (by rw [hlk]; exact HO.out)
        clear hlk
        go_loopw [9] (fun i wr => NuRel2 W x rb lk (.slice sq 40 d) 40 i wr) (fun i _ => 100 - (Go.RowKit.intOf i).toNat)
        case atStart => exact ⟨0, V1, s1, rfl, Nat.zero_le _, HL.out, HNU1.out, by omega, HO1.out⟩
        case round =>
          obtain ⟨j, V2, s2, rfl, hj, hla, hnu, hrl2, ho2⟩ := hrel
          have HL2 := Lib.hid hla
          have HNU2 := Lib.hid hnu
          have HO2 := Lib.hid ho2
          have j100 : (j : Int) < 100 := by omega
          have j0' : (0 : Int) ≤ (j : Int) := by omega
          have c0 := hla.c0
          clear hla hnu ho2
          obtain ⟨r, hr⟩ : ∃ r, nextR s2 = r := ⟨_, rfl⟩
          by_cases hem : s2.replies = []
          · have hb : nextB s2 = false := by unfold nextB; rw [hem]; rfl
            have hlen : (((nextS s2).replies.length : Nat) : Int) = 0 := by rw [nextS_len, hem]; rfl
            have HLEN := Lib.hid hlen
            clear hem hlen
            have HNX := nextE_at HL2.out.n r false hr hb
            have HNXT := Lib.hid HNX
            clear HNX hr hb
            go_wp2_with fail
            refine HNXT.out.mono ?_
            rintro e w6 ⟨rfl, vr6, hn6, k6, _⟩
            have L6 := Lib.hid (HL2.out.step hn6 k6)
            clear hn6 k6 c0
            dsimp only
            obtain ⟨rv, hrv⟩ : ∃ x, x = rpV r := ⟨_, rfl⟩
            rw [← hrv]
            have HRV := Lib.hid hrv
            clear hrv
            go_wp2_with (first
              | (refine wpList_alloc50 rfl rfl ?_; intro gA w7 z7 hz7 hg7 eg7 sg7 k7; have HZ7 := Lib.hid hz7; have HG7 := Lib.hid hg7; have EG7 := Lib.hid eg7; have K7 := Lib.hid k7; clear hz7 hg7 eg7 sg7 k7)
              | (refine wpList_store50 rfl (.tmp 10) (.tmp 61) rfl gA r rfl HRV.out z7 HG7.out HZ7.out ?_; intro w8 hg8 k8; have k68 := (K7.out.zero.trans k8 fun q h => .inl h : Kp (fun q => q = gA) w6 w8).mono (G := fun _ => False) (fun q h => .inr (by have := EG7.out; omega)); have L8 := Lib.hid (L6.out.keep0 k68); have c8 := L8.out.c0; clear hg8 k8 k68))
            refine (waiting_at L8.out.n 0 HLEN.out).mono ?_
            rintro e w' ⟨rfl, rfl⟩
            dsimp only
            go_wp2_with fail
            go_ret
            exact ⟨rfl, L8.out.k⟩
          · have hb : nextB s2 = true := (nextB_iff s2).2 hem
            have hmem := nextR_mem hem
            rw [hr] at hmem
            obtain ⟨jq, hnum, hmir⟩ := HNU2.out r hmem
            obtain ⟨gq, e2, hcell, hjk⟩ := rq_cell HO2.out HLK.out hmir
            have hlen : 0 < s2.replies.length := List.length_pos_iff.2 hem
            have HNXT := Lib.hid (nextE_at HL2.out.n r true hr hb)
            have HCELL := Lib.hid hcell
            have HGQ := Lib.hid e2
            have lq0 : (0 : Int) ≤ (jq : Int) := by omega
            have lq1 : (jq : Int) < (40 : Int) := by omega
            have lq2 : (jq : Int) + 1 ≤ (40 : Int) := by omega
            obtain ⟨num, mir, tt, bb⟩ := r
            dsimp only at hnum hmir hcell HCELL
            subst hnum
            clear hr hb hem hmem hmir hcell e2
            go_wp2_with fail
            refine HNXT.out.mono ?_
            rintro e w6 ⟨rfl, vr6, hn6, k6, _⟩
            have L6 := Lib.hid (HL2.out.step hn6 k6)
            have O6 := Lib.hid (k6.own HO2.out (HL2.out.n.own_foot HO2.out (by decide) (by decide) (by decide)))
            have q6 : ¬ V2.foot gq := by
              obtain ⟨g, e, hb, _⟩ := own_cells HO2.out (by omega)
              rw [HGQ.out] at e
              cases e
              exact HL2.out.n.own_foot HO2.out (by decide) (by decide) (by decide) gq hb
            have HC6 := Lib.hid (k6.cell HCELL.out q6)
            clear hn6 k6 c0 q6
            dsimp only
            obtain ⟨rv, hrv⟩ : ∃ x, x = rpV ⟨(jq : Int) + 1, mir, tt, bb⟩ := ⟨_, rfl⟩
            rw [← hrv]
            have HRV := Lib.hid hrv
            clear hrv
            go_wp2_with (first
              | (refine wpList_alloc50 rfl rfl ?_; intro gA w7 z7 hz7 hg7 eg7 sg7 k7; have HZ7 := Lib.hid hz7; have HG7 := Lib.hid hg7; have EG7 := Lib.hid eg7; have K7 := Lib.hid k7; clear hz7 hg7 eg7 sg7 k7)
              | (refine wpList_store50 rfl (.tmp 10) (.tmp 61) rfl gA ⟨(jq : Int) + 1, mir, tt, bb⟩ rfl HRV.out z7 HG7.out HZ7.out ?_; intro w8 hg8 k8; have k68 := (K7.out.zero.trans k8 fun q h => .inl h : Kp (fun q => q = gA) w6 w8).mono (G := fun _ => False) (fun q h => .inr (by have := EG7.out; omega)); have L8 := Lib.hid (L6.out.keep0 k68); have O8 := Lib.hid (k68.own O6.out fun _ _ h => h); have HC8 := Lib.hid (k68.cell HC6.out (fun h => h)); have HG8 := Lib.hid hg8; clear hg8 k8 k68))
            have hws : IntKind.i64.wrap (jq : Int) = (jq : Int) := IntWalk.i64_in _ (by omega)
            have HSQ := HGQ.out
            subst HSQ
            have lqa : ¬ (40 : Int) ≤ (jq : Int) := by omega
            have lqb : ¬ (40 : Int) < (jq : Int) + 1 := by omega
            have lqc : ¬ (40 : Nat) ≤ jq := by omega
            have lqd : ¬ (40 : Nat) < jq + 1 := by omega
            refine wp_region_held_drew (S := Kp (fun _ => False) w8) (by kernel_rfl) (Kp.drew _ _) (fun hHeld => ?_)
            refine wpAnyH_take (i := 0) (v := ?v15) rfl (by kernel_rfl) (by kernel_rfl) (by kernel_rfl) (fun _ _ _ h => h) (Or.inl ⟨by rfl, ?y15⟩) (by assumption) ?r15
            case y15 =>
              intro wq hSw
              clear hSw
              go_simp
              with_reducible rfl
            simp only [Act.put, List.getElem_toArray, List.getElem_cons_succ, List.getElem_cons_zero, List.setIfInBounds_toArray, List.set_cons_zero, List.set_cons_succ]
            refine wpAnyH_take (i := 1) (v := ?v16) rfl (by kernel_rfl) (by kernel_rfl) (by kernel_rfl) (fun _ _ _ h => h) (Or.inl ⟨by rfl, ?y16⟩) (by assumption) ?r16
            case y16 =>
              intro wq hSw
              have q0 : wq.cell? ⟨gA, 0, none⟩ = some (.int .i64 ((jq : Int) + 1)) := cell_of_row _ _ 0 _ _ _ (hSw.heap HG8.out (fun h => h))
              clear hSw
              go_simp
              with_reducible rfl
            simp only [Act.put, List.getElem_toArray, List.getElem_cons_succ, List.getElem_cons_zero, List.setIfInBounds_toArray, List.set_cons_zero, List.set_cons_succ]
            refine wpAnyH_take (i := 2) (v := ?v17) rfl (by kernel_rfl) (by kernel_rfl) (by kernel_rfl) (fun _ _ _ h => h) (Or.inl ⟨by rfl, ?y17⟩) (by assumption) ?r17
            case y17 =>
              intro wq hSw
              clear hSw
              go_simp
              with_reducible rfl
            simp only [Act.put, List.getElem_toArray, List.getElem_cons_succ, List.getElem_cons_zero, List.setIfInBounds_toArray, List.set_cons_zero, List.set_cons_succ]
            refine wpAnyH_take (i := 3) (v := ?v18) rfl (by kernel_rfl) (by kernel_rfl) (by kernel_rfl) (fun _ _ _ h => h) (Or.inl ⟨by rfl, ?y18⟩) (by assumption) ?r18
            case y18 =>
              intro wq hSw
              clear hSw
              go_simp
              with_reducible rfl
            simp only [Act.put, List.getElem_toArray, List.getElem_cons_succ, List.getElem_cons_zero, List.setIfInBounds_toArray, List.set_cons_zero, List.set_cons_succ]
            refine wpAnyH_take (i := 4) (v := ?v19) rfl (by kernel_rfl) (by kernel_rfl) (by kernel_rfl) (fun _ _ _ h => h) (Or.inl ⟨by rfl, ?y19⟩) (by assumption) ?r19
            case y19 =>
              intro wq hSw
              clear hSw
              go_simp
              with_reducible rfl
            simp only [Act.put, List.getElem_toArray, List.getElem_cons_succ, List.getElem_cons_zero, List.setIfInBounds_toArray, List.set_cons_zero, List.set_cons_succ]
            refine wpAnyH_take (i := 5) (v := ?v20) rfl (by kernel_rfl) (by kernel_rfl) (by kernel_rfl) (fun _ _ _ h => h) (Or.inl ⟨by rfl, ?y20⟩) (by assumption) ?r20
            case y20 =>
              intro wq hSw
              have q0 : wq.cell? ⟨gA, 0, none⟩ = some (.int .i64 ((jq : Int) + 1)) := cell_of_row _ _ 0 _ _ _ (hSw.heap HG8.out (fun h => h))
              clear hSw
              go_simp
              with_reducible rfl
            simp only [Act.put, List.getElem_toArray, List.getElem_cons_succ, List.getElem_cons_zero, List.setIfInBounds_toArray, List.set_cons_zero, List.set_cons_succ]
            refine wpAnyH_take (i := 6) (v := ?v21) rfl (by kernel_rfl) (by kernel_rfl) (by kernel_rfl) (fun _ _ _ h => h) (Or.inl ⟨by rfl, ?y21⟩) (by assumption) ?r21
            case y21 =>
              intro wq hSw
              clear hSw
              go_simp
              with_reducible rfl
            simp only [Act.put, List.getElem_toArray, List.getElem_cons_succ, List.getElem_cons_zero, List.setIfInBounds_toArray, List.set_cons_zero, List.set_cons_succ]
            refine wpAnyH_take (i := 7) (v := ?v22) rfl (by kernel_rfl) (by kernel_rfl) (by kernel_rfl) (fun _ _ _ h => h) (Or.inl ⟨by rfl, ?y22⟩) (by assumption) ?r22
            case y22 =>
              intro wq hSw
              clear hSw
              go_simp
              with_reducible rfl
            simp only [Act.put, List.getElem_toArray, List.getElem_cons_succ, List.getElem_cons_zero, List.setIfInBounds_toArray, List.set_cons_zero, List.set_cons_succ]
            refine wpAnyH_take (i := 8) (v := ?v23) rfl (by kernel_rfl) (by kernel_rfl) (by kernel_rfl) (fun _ _ _ h => h) (Or.inl ⟨by rfl, ?y23⟩) (by assumption) ?r23
            case y23 =>
              intro wq hSw
              clear hSw
              go_simp
              with_reducible rfl
            simp only [Act.put, List.getElem_toArray, List.getElem_cons_succ, List.getElem_cons_zero, List.setIfInBounds_toArray, List.set_cons_zero, List.set_cons_succ]
            refine wpAnyH_take (i := 9) (v := ?v24) rfl (by kernel_rfl) (by kernel_rfl) (by kernel_rfl) (fun _ _ _ h => h) (Or.inl ⟨by rfl, ?y24⟩) (by assumption) ?r24
            case y24 =>
              intro wq hSw
              clear hSw
              go_simp
              with_reducible rfl
            simp only [Act.put, List.getElem_toArray, List.getElem_cons_succ, List.getElem_cons_zero, List.setIfInBounds_toArray, List.set_cons_zero, List.set_cons_succ]
            refine wpAnyH_take (i := 10) (v := ?v25) rfl (by kernel_rfl) (by kernel_rfl) (by kernel_rfl) (fun _ _ _ h => h) (Or.inl ⟨by rfl, ?y25⟩) (by assumption) ?r25
            case y25 =>
              intro wq hSw
              clear hSw
              go_simp
              with_reducible rfl
            simp only [Act.put, List.getElem_toArray, List.getElem_cons_succ, List.getElem_cons_zero, List.setIfInBounds_toArray, List.set_cons_zero, List.set_cons_succ]
            refine wpAnyH_take (i := 11) (v := ?v26) rfl (by kernel_rfl) (by kernel_rfl) (by kernel_rfl) (fun _ _ _ h => h) (Or.inl ⟨by rfl, ?y26⟩) (by assumption) ?r26
            case y26 =>
              intro wq hSw
              clear hSw
              go_simp
              with_reducible rfl
            simp only [Act.put, List.getElem_toArray, List.getElem_cons_succ, List.getElem_cons_zero, List.setIfInBounds_toArray, List.set_cons_zero, List.set_cons_succ]
            refine wpAnyH_take (i := 12) (v := ?v27) rfl (by kernel_rfl) (by kernel_rfl) (by kernel_rfl) (fun _ _ _ h => h) (Or.inl ⟨by rfl, ?y27⟩) (by assumption) ?r27
            case y27 =>
              intro wq hSw
              clear hSw
              go_simp
              with_reducible rfl
            simp only [Act.put, List.getElem_toArray, List.getElem_cons_succ, List.getElem_cons_zero, List.setIfInBounds_toArray, List.set_cons_zero, List.set_cons_succ]
            refine wpAnyH_take (i := 13) (v := ?v28) rfl (by kernel_rfl) (by kernel_rfl) (by kernel_rfl) (fun _ _ _ h => h) (Or.inl ⟨by rfl, ?y28⟩) (by assumption) ?r28
            case y28 =>
              intro wq hSw
              have q0 : wq.cell? ⟨gA, 0, none⟩ = some (.int .i64 ((jq : Int) + 1)) := cell_of_row _ _ 0 _ _ _ (hSw.heap HG8.out (fun h => h))
              clear hSw
              go_simp
              with_reducible rfl
            simp only [Act.put, List.getElem_toArray, List.getElem_cons_succ, List.getElem_cons_zero, List.setIfInBounds_toArray, List.set_cons_zero, List.set_cons_succ]
            refine wpAnyH_take (i := 14) (v := ?v29) rfl (by kernel_rfl) (by kernel_rfl) (by kernel_rfl) (fun _ _ _ h => h) (Or.inl ⟨by rfl, ?y29⟩) (by assumption) ?r29
            case y29 =>
              intro wq hSw
              clear hSw
              go_simp
              with_reducible rfl
            simp only [Act.put, List.getElem_toArray, List.getElem_cons_succ, List.getElem_cons_zero, List.setIfInBounds_toArray, List.set_cons_zero, List.set_cons_succ]
            refine wpAnyH_take (i := 15) (v := ?v30) rfl (by kernel_rfl) (by kernel_rfl) (by kernel_rfl) (fun _ _ _ h => h) (Or.inl ⟨by rfl, ?y30⟩) (by assumption) ?r30
            case y30 =>
              intro wq hSw
              clear hSw
              go_simp
              with_reducible rfl
            simp only [Act.put, List.getElem_toArray, List.getElem_cons_succ, List.getElem_cons_zero, List.setIfInBounds_toArray, List.set_cons_zero, List.set_cons_succ]
            refine wpAnyH_take (i := 16) (v := ?v31) rfl (by kernel_rfl) (by kernel_rfl) (by kernel_rfl) (fun _ _ _ h => h) (Or.inl ⟨by rfl, ?y31⟩) (by assumption) ?r31
            case y31 =>
              intro wq hSw
              clear hSw
              go_simp
              with_reducible rfl
            simp only [Act.put, List.getElem_toArray, List.getElem_cons_succ, List.getElem_cons_zero, List.setIfInBounds_toArray, List.set_cons_zero, List.set_cons_succ]
            refine wpAnyH_take (i := 17) (v := ?v32) rfl (by kernel_rfl) (by kernel_rfl) (by kernel_rfl) (fun _ _ _ h => h) (Or.inl ⟨by rfl, ?y32⟩) (by assumption) ?r32
            case y32 =>
              intro wq hSw
              have q0 := hSw.cell HC8.out (fun h => h)
              clear hSw
              go_simp
              with_reducible rfl
            simp only [Act.put, List.getElem_toArray, List.getElem_cons_succ, List.getElem_cons_zero, List.setIfInBounds_toArray, List.set_cons_zero, List.set_cons_succ]
            refine wpAnyH_take (i := 18) (v := ?v33) rfl (by kernel_rfl) (by kernel_rfl) (by kernel_rfl) (fun _ _ _ h => h) (Or.inl ⟨by rfl, ?y33⟩) (by assumption) ?r33
            case y33 =>
              intro wq hSw
              clear hSw
              go_simp
              with_reducible rfl
            simp only [Act.put, List.getElem_toArray, List.getElem_cons_succ, List.getElem_cons_zero, List.setIfInBounds_toArray, List.set_cons_zero, List.set_cons_succ]
            refine wpAnyH_take (i := 19) (v := ?v34) rfl (by kernel_rfl) (by kernel_rfl) (by kernel_rfl) (fun _ _ _ h => h) (Or.inl ⟨by rfl, ?y34⟩) (by assumption) ?r34
            case y34 =>
              intro wq hSw
              have q0 : wq.cell? ⟨gA, 1, none⟩ = some (.int .i64 mir) := cell_of_row _ _ 1 _ _ _ (hSw.heap HG8.out (fun h => h))
              clear hSw
              go_simp
              with_reducible rfl
            simp only [Act.put, List.getElem_toArray, List.getElem_cons_succ, List.getElem_cons_zero, List.setIfInBounds_toArray, List.set_cons_zero, List.set_cons_succ]
            refine wpAnyH_take (i := 20) (v := ?v35) rfl (by kernel_rfl) (by kernel_rfl) (by kernel_rfl) (fun _ _ _ h => h) (Or.inl ⟨by rfl, ?y35⟩) (by assumption) ?r35
            case y35 =>
              intro wq hSw
              clear hSw
              go_simp
              with_reducible rfl
            simp only [Act.put, List.getElem_toArray, List.getElem_cons_succ, List.getElem_cons_zero, List.setIfInBounds_toArray, List.set_cons_zero, List.set_cons_succ]
            refine wpAnyH_take (i := 21) (v := ?v36) rfl (by kernel_rfl) (by kernel_rfl) (by kernel_rfl) (fun _ _ _ h => h) (Or.inl ⟨by rfl, ?y36⟩) (by assumption) ?r36
            case y36 =>
              intro wq hSw
              clear hSw
              go_simp
              with_reducible rfl
            simp only [Act.put, List.getElem_toArray, List.getElem_cons_succ, List.getElem_cons_zero, List.setIfInBounds_toArray, List.set_cons_zero, List.set_cons_succ]
            refine wpAnyH_done (by kernel_rfl) ?_ _
            go_wp2_with fail
            go_roundw
            case rel => exact ⟨j + 1, _, _, by simp, by omega, L8.out.keep0 (Kp.drew _ _), HNU2.out.next, by rw [nextS_len]; omega, (Kp.drew (fun _ => False) _).own O8.out fun _ _ h => h⟩
            case measure => simp [Go.RowKit.intOf]; omega
    · have hjn : k = n := by omega
      subst hjn
      go_wp2_with fail
      obtain ⟨lk, hlk⟩ : ∃ l, l = L.take k := ⟨_, rfl⟩
      have HLK : Hid (lk.length = k) := Lib.hid (by rw [hlk, List.length_take]; have := HN.out; omega)
      have HNU1 : Hid (NumOk (msOf lk) s1.replies) := Lib.hid (by rw [hlk]; exact HNU.out)
      have HO1 : Hid (wr.ownsRow W.heap.size 46 33 (.slice sq k d) k (rqs lk)) := Lib.hid (by rw [hlk]; exact HO.out)
      clear hlk
      go_loopw [9] (fun i wr => NuRel2 W x rb lk (.slice sq k d) k i wr) (fun i _ => 100 - (Go.RowKit.intOf i).toNat)
      case atStart => exact ⟨0, V1, s1, rfl, Nat.zero_le _, HL.out, HNU1.out, by omega, HO1.out⟩
      case round =>
        obtain ⟨j, V2, s2, rfl, hj, hla, hnu, hrl2, ho2⟩ := hrel
        have HL2 := Lib.hid hla
        have HNU2 := Lib.hid hnu
        have HO2 := Lib.hid ho2
        have j100 : (j : Int) < 100 := by omega
        have j0' : (0 : Int) ≤ (j : Int) := by omega
        have c0 := hla.c0
        clear hla hnu ho2
        obtain ⟨r, hr⟩ : ∃ r, nextR s2 = r := ⟨_, rfl⟩
        by_cases hem : s2.replies = []
        · have hb : nextB s2 = false := by unfold nextB; rw [hem]; rfl
          have hlen : (((nextS s2).replies.length : Nat) : Int) = 0 := by rw [nextS_len, hem]; rfl
          have HLEN := Lib.hid hlen
          clear hem hlen
          have HNX := nextE_at HL2.out.n r false hr hb
          have HNXT := Lib.hid HNX
          clear HNX hr hb
          go_wp2_with fail
          refine HNXT.out.mono ?_
          rintro e w6 ⟨rfl, vr6, hn6, k6, _⟩
          have L6 := Lib.hid (HL2.out.step hn6 k6)
          clear hn6 k6 c0
          dsimp only
          obtain ⟨rv, hrv⟩ : ∃ x, x = rpV r := ⟨_, rfl⟩
          rw [← hrv]
          have HRV := Lib.hid hrv
          clear hrv
          go_wp2_with (first
            | (refine wpList_alloc50 rfl rfl ?_; intro gA w7 z7 hz7 hg7 eg7 sg7 k7; have HZ7 := Lib.hid hz7; have HG7 := Lib.hid hg7; have EG7 := Lib.hid eg7; have K7 := Lib.hid k7; clear hz7 hg7 eg7 sg7 k7)
            | (refine wpList_store50 rfl (.tmp 10) (.tmp 61) rfl gA r rfl HRV.out z7 HG7.out HZ7.out ?_; intro w8 hg8 k8; have k68 := (K7.out.zero.trans k8 fun q h => .inl h : Kp (fun q => q = gA) w6 w8).mono (G := fun _ => False) (fun q h => .inr (by have := EG7.out; omega)); have L8 := Lib.hid (L6.out.keep0 k68); have c8 := L8.out.c0; clear hg8 k8 k68))
          refine (waiting_at L8.out.n 0 HLEN.out).mono ?_
          rintro e w' ⟨rfl, rfl⟩
          dsimp only
          go_wp2_with fail
          go_ret
          exact ⟨rfl, L8.out.k⟩
        · have hb : nextB s2 = true := (nextB_iff s2).2 hem
          have hmem := nextR_mem hem
          rw [hr] at hmem
          obtain ⟨jq, hnum, hmir⟩ := HNU2.out r hmem
          obtain ⟨gq, e2, hcell, hjk⟩ := rq_cell HO2.out HLK.out hmir
          have hlen : 0 < s2.replies.length := List.length_pos_iff.2 hem
          have HNXT := Lib.hid (nextE_at HL2.out.n r true hr hb)
          have HCELL := Lib.hid hcell
          have HGQ := Lib.hid e2
          have lq0 : (0 : Int) ≤ (jq : Int) := by omega
          have lq1 : (jq : Int) < (k : Int) := by omega
          have lq2 : (jq : Int) + 1 ≤ (k : Int) := by omega
          obtain ⟨num, mir, tt, bb⟩ := r
          dsimp only at hnum hmir hcell HCELL
          subst hnum
          clear hr hb hem hmem hmir hcell e2
          go_wp2_with fail
          refine HNXT.out.mono ?_
          rintro e w6 ⟨rfl, vr6, hn6, k6, _⟩
          have L6 := Lib.hid (HL2.out.step hn6 k6)
          have O6 := Lib.hid (k6.own HO2.out (HL2.out.n.own_foot HO2.out (by decide) (by decide) (by decide)))
          have q6 : ¬ V2.foot gq := by
            obtain ⟨g, e, hb, _⟩ := own_cells HO2.out (by omega)
            rw [HGQ.out] at e
            cases e
            exact HL2.out.n.own_foot HO2.out (by decide) (by decide) (by decide) gq hb
          have HC6 := Lib.hid (k6.cell HCELL.out q6)
          clear hn6 k6 c0 q6
          dsimp only
          obtain ⟨rv, hrv⟩ : ∃ x, x = rpV ⟨(jq : Int) + 1, mir, tt, bb⟩ := ⟨_, rfl⟩
          rw [← hrv]
          have HRV := Lib.hid hrv
          clear hrv
          go_wp2_with (first
            | (refine wpList_alloc50 rfl rfl ?_; intro gA w7 z7 hz7 hg7 eg7 sg7 k7; have HZ7 := Lib.hid hz7; have HG7 := Lib.hid hg7; have EG7 := Lib.hid eg7; have K7 := Lib.hid k7; clear hz7 hg7 eg7 sg7 k7)
            | (refine wpList_store50 rfl (.tmp 10) (.tmp 61) rfl gA ⟨(jq : Int) + 1, mir, tt, bb⟩ rfl HRV.out z7 HG7.out HZ7.out ?_; intro w8 hg8 k8; have k68 := (K7.out.zero.trans k8 fun q h => .inl h : Kp (fun q => q = gA) w6 w8).mono (G := fun _ => False) (fun q h => .inr (by have := EG7.out; omega)); have L8 := Lib.hid (L6.out.keep0 k68); have O8 := Lib.hid (k68.own O6.out fun _ _ h => h); have HC8 := Lib.hid (k68.cell HC6.out (fun h => h)); have HG8 := Lib.hid hg8; clear hg8 k8 k68))
          have hws : IntKind.i64.wrap (jq : Int) = (jq : Int) := IntWalk.i64_in _ (by omega)
          have HSQ := HGQ.out
          subst HSQ
          have lqa : ¬ (k : Int) ≤ (jq : Int) := by omega
          have lqb : ¬ (k : Int) < (jq : Int) + 1 := by omega
          have lqc : ¬ (k : Nat) ≤ jq := by omega
          have lqd : ¬ (k : Nat) < jq + 1 := by omega
          refine wp_region_held_drew (S := Kp (fun _ => False) w8) (by kernel_rfl) (Kp.drew _ _) (fun hHeld => ?_)
          refine wpAnyH_take (i := 0) (v := ?v37) rfl (by kernel_rfl) (by kernel_rfl) (by kernel_rfl) (fun _ _ _ h => h) (Or.inl ⟨by rfl, ?y37⟩) (by assumption) ?r37
          case y37 =>
            intro wq hSw
            clear hSw
            go_simp
            with_reducible rfl
          simp only [Act.put, List.getElem_toArray, List.getElem_cons_succ, List.getElem_cons_zero, List.setIfInBounds_toArray, List.set_cons_zero, List.set_cons_succ]
          refine wpAnyH_take (i := 1) (v := ?v38) rfl (by kernel_rfl) (by kernel_rfl) (by kernel_rfl) (fun _ _ _ h => h) (Or.inl ⟨by rfl, ?y38⟩) (by assumption) ?r38
          case y38 =>
            intro wq hSw
            have q0 : wq.cell? ⟨gA, 0, none⟩ = some (.int .i64 ((jq : Int) + 1)) := cell_of_row _ _ 0 _ _ _ (hSw.heap HG8.out (fun h => h))
            clear hSw
            go_simp
            with_reducible rfl
          simp only [Act.put, List.getElem_toArray, List.getElem_cons_succ, List.getElem_cons_zero, List.setIfInBounds_toArray, List.set_cons_zero, List.set_cons_succ]
          refine wpAnyH_take (i := 2) (v := ?v39) rfl (by kernel_rfl) (by kernel_rfl) (by kernel_rfl) (fun _ _ _ h => h) (Or.inl ⟨by rfl, ?y39⟩) (by assumption) ?r39
          case y39 =>
            intro wq hSw
            clear hSw
            go_simp
            with_reducible rfl
          simp only [Act.put, List.getElem_toArray, List.getElem_cons_succ, List.getElem_cons_zero, List.setIfInBounds_toArray, List.set_cons_zero, List.set_cons_succ]
          refine wpAnyH_take (i := 3) (v := ?v40) rfl (by kernel_rfl) (by kernel_rfl) (by kernel_rfl) (fun _ _ _ h => h) (Or.inl ⟨by rfl, ?y40⟩) (by assumption) ?r40
          case y40 =>
            intro wq hSw
            clear hSw
            go_simp
            with_reducible rfl
          simp only [Act.put, List.getElem_toArray, List.getElem_cons_succ, List.getElem_cons_zero, List.setIfInBounds_toArray, List.set_cons_zero, List.set_cons_succ]
          refine wpAnyH_take (i := 4) (v := ?v41) rfl (by kernel_rfl) (by kernel_rfl) (by kernel_rfl) (fun _ _ _ h => h) (Or.inl ⟨by rfl, ?y41⟩) (by assumption) ?r41
          case y41 =>
            intro wq hSw
            clear hSw
            go_simp
            with_reducible rfl
          simp only [Act.put, List.getElem_toArray, List.getElem_cons_succ, List.getElem_cons_zero, List.setIfInBounds_toArray, List.set_cons_zero, List.set_cons_succ]
          refine wpAnyH_take (i := 5) (v := ?v42) rfl (by kernel_rfl) (by kernel_rfl) (by kernel_rfl) (fun _ _ _ h => h) (Or.inl ⟨by rfl, ?y42⟩) (by assumption) ?r42
          case y42 =>
            intro wq hSw
            have q0 : wq.cell? ⟨gA, 0, none⟩ = some (.int .i64 ((jq : Int) + 1)) := cell_of_row _ _ 0 _ _ _ (hSw.heap HG8.out (fun h => h))
            clear hSw
            go_simp
            with_reducible rfl
          simp only [Act.put, List.getElem_toArray, List.getElem_cons_succ, List.getElem_cons_zero, List.setIfInBounds_toArray, List.set_cons_zero, List.set_cons_succ]
          refine wpAnyH_take (i := 6) (v := ?v43) rfl (by kernel_rfl) (by kernel_rfl) (by kernel_rfl) (fun _ _ _ h => h) (Or.inl ⟨by rfl, ?y43⟩) (by assumption) ?r43
          case y43 =>
            intro wq hSw
            clear hSw
            go_simp
            with_reducible rfl
          simp only [Act.put, List.getElem_toArray, List.getElem_cons_succ, List.getElem_cons_zero, List.setIfInBounds_toArray, List.set_cons_zero, List.set_cons_succ]
          refine wpAnyH_take (i := 7) (v := ?v44) rfl (by kernel_rfl) (by kernel_rfl) (by kernel_rfl) (fun _ _ _ h => h) (Or.inl ⟨by rfl, ?y44⟩) (by assumption) ?r44
          case y44 =>
            intro wq hSw
            clear hSw
            go_simp
            with_reducible rfl
          simp only [Act.put, List.getElem_toArray, List.getElem_cons_succ, List.getElem_cons_zero, List.setIfInBounds_toArray, List.set_cons_zero, List.set_cons_succ]
          refine wpAnyH_take (i := 8) (v := ?v45) rfl (by kernel_rfl) (by kernel_rfl) (by kernel_rfl) (fun _ _ _ h => h) (Or.inl ⟨by rfl, ?y45⟩) (by assumption) ?r45
          case y45 =>
            intro wq hSw
            clear hSw
            go_simp
            with_reducible rfl
          simp only [Act.put, List.getElem_toArray, List.getElem_cons_succ, List.getElem_cons_zero, List.setIfInBounds_toArray, List.set_cons_zero, List.set_cons_succ]
          refine wpAnyH_take (i := 9) (v := ?v46) rfl (by kernel_rfl) (by kernel_rfl) (by kernel_rfl) (fun _ _ _ h => h) (Or.inl ⟨by rfl, ?y46⟩) (by assumption) ?r46
          case y46 =>
            intro wq hSw
            clear hSw
            go_simp
            with_reducible rfl
          simp only [Act.put, List.getElem_toArray, List.getElem_cons_succ, List.getElem_cons_zero, List.setIfInBounds_toArray, List.set_cons_zero, List.set_cons_succ]
          refine wpAnyH_take (i := 10) (v := ?v47) rfl (by kernel_rfl) (by kernel_rfl) (by kernel_rfl) (fun _ _ _ h => h) (Or.inl ⟨by rfl, ?y47⟩) (by assumption) ?r47
          case y47 =>
            intro wq hSw
            clear hSw
            go_simp
            with_reducible rfl
          simp only [Act.put, List.getElem_toArray, List.getElem_cons_succ, List.getElem_cons_zero, List.setIfInBounds_toArray, List.set_cons_zero, List.set_cons_succ]
          refine wpAnyH_take (i := 11) (v := ?v48) rfl (by kernel_rfl) (by kernel_rfl) (by kernel_rfl) (fun _ _ _ h => h) (Or.inl ⟨by rfl, ?y48⟩) (by assumption) ?r48
          case y48 =>
            intro wq hSw
            clear hSw
            go_simp
            with_reducible rfl
          simp only [Act.put, List.getElem_toArray, List.getElem_cons_succ, List.getElem_cons_zero, List.setIfInBounds_toArray, List.set_cons_zero, List.set_cons_succ]
          refine wpAnyH_take (i := 12) (v := ?v49) rfl (by kernel_rfl) (by kernel_rfl) (by kernel_rfl) (fun _ _ _ h => h) (Or.inl ⟨by rfl, ?y49⟩) (by assumption) ?r49
          case y49 =>
            intro wq hSw
            clear hSw
            go_simp
            with_reducible rfl
          simp only [Act.put, List.getElem_toArray, List.getElem_cons_succ, List.getElem_cons_zero, List.setIfInBounds_toArray, List.set_cons_zero, List.set_cons_succ]
          refine wpAnyH_take (i := 13) (v := ?v50) rfl (by kernel_rfl) (by kernel_rfl) (by kernel_rfl) (fun _ _ _ h => h) (Or.inl ⟨by rfl, ?y50⟩) (by assumption) ?r50
          case y50 =>
            intro wq hSw
            have q0 : wq.cell? ⟨gA, 0, none⟩ = some (.int .i64 ((jq : Int) + 1)) := cell_of_row _ _ 0 _ _ _ (hSw.heap HG8.out (fun h => h))
            clear hSw
            go_simp
            with_reducible rfl
          simp only [Act.put, List.getElem_toArray, List.getElem_cons_succ, List.getElem_cons_zero, List.setIfInBounds_toArray, List.set_cons_zero, List.set_cons_succ]
          refine wpAnyH_take (i := 14) (v := ?v51) rfl (by kernel_rfl) (by kernel_rfl) (by kernel_rfl) (fun _ _ _ h => h) (Or.inl ⟨by rfl, ?y51⟩) (by assumption) ?r51
          case y51 =>
            intro wq hSw
            clear hSw
            go_simp
            with_reducible rfl
          simp only [Act.put, List.getElem_toArray, List.getElem_cons_succ, List.getElem_cons_zero, List.setIfInBounds_toArray, List.set_cons_zero, List.set_cons_succ]
          refine wpAnyH_take (i := 15) (v := ?v52) rfl (by kernel_rfl) (by kernel_rfl) (by kernel_rfl) (fun _ _ _ h => h) (Or.inl ⟨by rfl, ?y52⟩) (by assumption) ?r52
          case y52 =>
            intro wq hSw
            clear hSw
            go_simp
            with_reducible rfl
          simp only [Act.put, List.getElem_toArray, List.getElem_cons_succ, List.getElem_cons_zero, List.setIfInBounds_toArray, List.set_cons_zero, List.set_cons_succ]
          refine wpAnyH_take (i := 16) (v := ?v53) rfl (by kernel_rfl) (by kernel_rfl) (by kernel_rfl) (fun _ _ _ h => h) (Or.inl ⟨by rfl, ?y53⟩) (by assumption) ?r53
          case y53 =>
            intro wq hSw
            clear hSw
            go_simp
            with_reducible rfl
          simp only [Act.put, List.getElem_toArray, List.getElem_cons_succ, List.getElem_cons_zero, List.setIfInBounds_toArray, List.set_cons_zero, List.set_cons_succ]
          refine wpAnyH_take (i := 17) (v := ?v54) rfl (by kernel_rfl) (by kernel_rfl) (by kernel_rfl) (fun _ _ _ h => h) (Or.inl ⟨by rfl, ?y54⟩) (by assumption) ?r54
          case y54 =>
            intro wq hSw
            have q0 := hSw.cell HC8.out (fun h => h)
            clear hSw
            go_simp
            with_reducible rfl
          simp only [Act.put, List.getElem_toArray, List.getElem_cons_succ, List.getElem_cons_zero, List.setIfInBounds_toArray, List.set_cons_zero, List.set_cons_succ]
          refine wpAnyH_take (i := 18) (v := ?v55) rfl (by kernel_rfl) (by kernel_rfl) (by kernel_rfl) (fun _ _ _ h => h) (Or.inl ⟨by rfl, ?y55⟩) (by assumption) ?r55
          case y55 =>
            intro wq hSw
            clear hSw
            go_simp
            with_reducible rfl
          simp only [Act.put, List.getElem_toArray, List.getElem_cons_succ, List.getElem_cons_zero, List.setIfInBounds_toArray, List.set_cons_zero, List.set_cons_succ]
          refine wpAnyH_take (i := 19) (v := ?v56) rfl (by kernel_rfl) (by kernel_rfl) (by kernel_rfl) (fun _ _ _ h => h) (Or.inl ⟨by rfl, ?y56⟩) (by assumption) ?r56
          case y56 =>
            intro wq hSw
            have q0 : wq.cell? ⟨gA, 1, none⟩ = some (.int .i64 mir) := cell_of_row _ _ 1 _ _ _ (hSw.heap HG8.out (fun h => h))
            clear hSw
            go_simp
            with_reducible rfl
          simp only [Act.put, List.getElem_toArray, List.getElem_cons_succ, List.getElem_cons_zero, List.setIfInBounds_toArray, List.set_cons_zero, List.set_cons_succ]
          refine wpAnyH_take (i := 20) (v := ?v57) rfl (by kernel_rfl) (by kernel_rfl) (by kernel_rfl) (fun _ _ _ h => h) (Or.inl ⟨by rfl, ?y57⟩) (by assumption) ?r57
          case y57 =>
            intro wq hSw
            clear hSw
            go_simp
            with_reducible rfl
          simp only [Act.put, List.getElem_toArray, List.getElem_cons_succ, List.getElem_cons_zero, List.setIfInBounds_toArray, List.set_cons_zero, List.set_cons_succ]
          refine wpAnyH_take (i := 21) (v := ?v58) rfl (by kernel_rfl) (by kernel_rfl) (by kernel_rfl) (fun _ _ _ h => h) (Or.inl ⟨by rfl, ?y58⟩) (by assumption) ?r58
          case y58 =>
            intro wq hSw
            clear hSw
            go_simp
            with_reducible rfl
          simp only [Act.put, List.getElem_toArray, List.getElem_cons_succ, List.getElem_cons_zero, List.setIfInBounds_toArray, List.set_cons_zero, List.set_cons_succ]
          refine wpAnyH_done (by kernel_rfl) ?_ _
          go_wp2_with fail
          go_roundw
          case rel => exact ⟨j + 1, _, _, by simp, by omega, L8.out.keep0 (Kp.drew _ _), HNU2.out.next, by rw [nextS_len]; omega, (Kp.drew (fun _ => False) _).own O8.out fun _ _ h => h⟩
          case measure => simp [Go.RowKit.intOf]; omega

end Go.Proofs.Ytlkamfmepjddkaa
