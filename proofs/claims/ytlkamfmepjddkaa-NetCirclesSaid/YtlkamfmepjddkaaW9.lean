/- Walk: a request to a mirror that exists. -/
import Derived.Test.YtlkamfmepjddkaaW8
import Derived.Deep.DeepCutAuto
set_option linter.unusedSimpArgs false
set_option linter.unusedVariables false
namespace Go.Proofs.Ytlkamfmepjddkaa
open Go.RowKit Go.Lib Go.Maps

theorem nok_st1 {st : NS} (h : NOk st) (j a : Nat) (ha : a ≤ st.n) (hn : st.n < 100000) : NOk { st with n := st.n + 1, asked := st.asked.set j (a + 1) } :=
  ⟨h.hp, h.ho, h.lp, h.lo, by simp only [List.length_set]; exact h.la, h.ls, h.hs, fun k hk => by
    rcases List.mem_or_eq_of_mem_set hk with hk | hk
    · exact Nat.le_succ_of_le (h.ha k hk)
    · subst hk; simp only; omega, hn, by have := h.lr; simp only; omega⟩

theorem run_enter {f : FuncId} {fn : Func} {c : Code} (hf : Try.prog.funcs[f]? = some fn) (hname : (fn.name == "runtime.NumGoroutine") = false) (hb : fn.body = some c) (args : Array Value) (w : World) :
    (callFunc f args).run Try.prog w = .ok (.enter f args) w := by
  have h1 : fn.name ≠ "runtime.NumGoroutine" := by simpa using hname
  simp [callFunc, hf, h1, hb]
theorem meth_call {k : Int} {f : FuncId} (hf : kindF k = some f) : ∀ args w, (callFunc f args).run Try.prog w = .ok (.enter f args) w := by
  unfold kindF at hf
  split at hf
  · cases hf; exact run_enter Try.func41 (by kernel_rfl) rfl
  split at hf
  · cases hf; exact run_enter Try.func42 (by kernel_rfl) rfl
  split at hf
  · cases hf; exact run_enter Try.func43 (by kernel_rfl) rfl
  split at hf
  · cases hf; exact run_enter Try.func44 (by kernel_rfl) rfl
  split at hf
  · cases hf; exact run_enter Try.func45 (by kernel_rfl) rfl
  split at hf
  · cases hf; exact run_enter Try.func46 (by kernel_rfl) rfl
  cases hf

theorem info50 : (Try.prog.info? 50).map (fun i => (i.zero, i.size, i.bytes)) = some (some (.agg #[.int .i64 0, .int .i64 0, .int .i64 0, .string emptyS]), 4, 40) := by kernel_rfl

theorem rps_snoc (l : List Rp) (r : Rp) : rps (l ++ [r]) = rps l ++ rpCells r := by simp [rps]

/-- One reply more. -/
theorem rep_step {wr w6 : World} {B : Nat} {V : NV} {s : NS} (r : Rp) {v6 : Value} (hN : NetP wr B V s) (hk : Kp (fun q => V.vr.ownBlock = some q) wr w6) (ho : w6.ownsRow B 50 4 v6 (s.replies.length + 1) (rps s.replies ++ rpCells r))
    (hok : NOk { s with replies := s.replies ++ [r] }) : NetP (w6.setCell ⟨V.b, 5, none⟩ v6) B { V with vr := v6 } { s with replies := s.replies ++ [r] } := by
  have hobj := hk.heap hN.obj hN.b_rep
  have hst : Kp (fun q => q = V.b) w6 (w6.setCell ⟨V.b, 5, none⟩ v6) := Kp.setCell (F := fun q => q = V.b) w6 (a := ⟨V.b, 5, none⟩) _ rfl
  have kS : Kp (fun q => q = V.b ∨ V.vr.ownBlock = some q) wr (w6.setCell ⟨V.b, 5, none⟩ v6) := (hk.mono (G := fun q => q = V.b ∨ V.vr.ownBlock = some q) fun q h => .inl (.inr h)).trans hst fun q h => .inl (.inl h)
  refine hN.build (kS.mono fun q h => .inl ?_) v6 rfl rfl rfl ?_ ?_ ?_ hok
  · rcases h with h | h
    · exact .inl h
    · exact .inr (.inl h)
  · rw [heap_setCell_same _ V.b 5 _ 71 _ hobj]
    rfl
  · intro i m l a hm hl ha
    refine hN.mir_keep kS (fun q h => ?_) hm hl ha ?_
    · rcases h with h | h
      · exact .inl h
      · exact .inr (.inl h)
    · rintro (h | h)
      · exact hN.b_mir (List.mem_of_getElem? hm) h
      · exact hN.rep_mir (List.mem_of_getElem? hm) h
  · have h6 : w6.ownsRow B 50 4 v6 (s.replies ++ [r]).length (rps (s.replies ++ [r])) := by rw [rps_snoc, List.length_append]; exact ho
    exact hst.own h6 fun q hq e => other_type h6 hobj (by decide) (by rw [hq, e])

def RepRel (w5 : World) (B : Nat) (V : NV) (st1 : NS) (rs : List Rp) (i : Value) (wr : World) : Prop :=
  ∃ (k : Nat) (vr' : Value), i = .int .i64 (k : Int) ∧ k ≤ rs.length ∧ NetP wr B { V with vr := vr' } { st1 with replies := st1.replies ++ rs.take k } ∧ Kp V.foot w5 wr ∧ ∀ q, vr'.ownBlock = some q → V.vr.ownBlock = some q ∨ w5.heap.size ≤ q

theorem next_at {w : World} {B : Nat} {m : Nat × Value} {l : List Bh} {a : Nat} (x : Bh) (hx : behS l a = x) (h : MirP w B m l a) (ha : a ≤ 100000) (hll : l.length ≤ 5864062014805) :
    Calls Try.prog 31 #[.pointer (some ⟨m.1, 0, none⟩)] w fun e w' => e = .returned (.agg #[.int .i64 x.k, .int .i64 x.d, .int .i64 x.n]) ∧ MirP w' B m l (a + 1) ∧ Kp (fun k => k = m.1) w w' := by
  subst hx
  exact next_any h ha hll

def NextRel (w1 : World) (B : Nat) (m : Nat × Value) (l : List Bh) (a : Nat) (x : Bh) (s7 : Value) (wx : World) : Prop :=
  ∃ R7 : Nat, s7 = .pointer (some ⟨R7, 0, none⟩) ∧ w1.heap.size ≤ R7 ∧ wx.heap[R7]? = some (.cells #[.int .i64 x.k, .int .i64 x.d, .int .i64 x.n] 42 (0, 0)) ∧ Kp (fun k => k = m.1) w1 wx ∧ MirP wx B m l (a + 1)

set_option maxRecDepth 100000 in
set_option maxHeartbeats 8000000 in
theorem ask_near {w : World} {B : Nat} {V : NV} {st : NS} (h : NetP w B V st) (now : Int) (j : Nat) (hs : List UInt8) (hh : hs.length = 32) (hn : st.n < 100000) (hj2 : j < st.scripts.length) (hnow : -1000000 ≤ now ∧ now ≤ 1000000) :
    Calls Try.prog 16 #[.pointer (some ⟨V.b, 0, none⟩), .int .i64 now, reqV (j : Int) hs] w (AskPost w B V (askS st now (j : Int) hs) (.int .i64 ((st.n : Int) + 1))) := by
  obtain ⟨m, hm⟩ : ∃ m, V.ms[j]? = some m := ⟨_, List.getElem?_eq_getElem (by rw [h.ml]; exact hj2)⟩
  obtain ⟨l, hl⟩ : ∃ l, st.scripts[j]? = some l := ⟨_, List.getElem?_eq_getElem hj2⟩
  obtain ⟨a, ha⟩ : ∃ a, st.asked[j]? = some a := ⟨_, List.getElem?_eq_getElem (by rw [h.ok.la]; exact hj2)⟩
  obtain ⟨x, hx⟩ : ∃ x, behS l a = x := ⟨_, rfl⟩
  obtain ⟨st1, hst1⟩ : ∃ st1 : NS, st1 = { st with n := st.n + 1, asked := st.asked.set j (a + 1) } := ⟨_, rfl⟩
  obtain ⟨L, hL⟩ : ∃ L, L = bytesS st.packets st.old x hs := ⟨_, rfl⟩
  have hst : askS st now (j : Int) hs = { st1 with replies := st.replies ++ L.map fun b => ⟨(st.n : Int) + 1, (j : Int), now + max x.d 0, b⟩ } := by
    unfold askS
    rw [if_neg (by omega), Int.toNat_natCast, hl]
    have hg : st.asked.getD j 0 = a := by simp [List.getD, ha]
    simp only [hg, hx, hst1, hL]
  have hM := h.each j m l a hm hl ha
  have ha1 : a ≤ 100000 := by have := h.ok.ha a (List.mem_of_getElem? ha); omega
  have hll := (h.ok.hs l (List.mem_of_getElem? hl)).1
  obtain ⟨mb, mv⟩ := m
  have hmlt : mb < w.heap.size := by obtain ⟨c, hc, _⟩ := hM.cnt; exact (Array.getElem?_eq_some_iff.1 hc).1
  have hmb : mb ≠ V.b := h.b_mir (List.mem_of_getElem? hm)
  have hscr : ∀ k, mv.ownBlock = some k → ¬ V.foot k := h.own_foot hM.scr (by decide) (by decide) (by decide)
  have HM := Lib.hid hM
  have HMS := Lib.hid hm
  have HL1 := Lib.hid hl
  have HA1 := Lib.hid ha
  have HX := Lib.hid hx
  have HST1 := Lib.hid hst1
  have HLL := Lib.hid hL
  clear hM hm hl ha hx hst1 hL
  obtain ⟨sm, cm, hvm, hncm, _, hsm, hom⟩ := Src.of_own h.mir
  obtain ⟨c0, c1, c2, c3, c4, c5, cf⟩ := obj_cells h.obj
  obtain ⟨n, hnn⟩ : ∃ n, n = st.n := ⟨_, rfl⟩
  obtain ⟨ns, hns⟩ : ∃ ns, ns = st.scripts.length := ⟨_, rfl⟩
  rw [← hnn] at c4 hn ⊢
  rw [← hns] at hsm hvm hj2
  have hlt := h.lt
  have HN := Lib.hid h
  have HST := Lib.hid hst
  have HNN := Lib.hid hnn
  have HNS := Lib.hid hns
  have HVM := Lib.hid hvm
  have HSM := Lib.hid hsm
  have hw : IntKind.i64.wrap ((n : Int) + 1) = (n : Int) + 1 := IntWalk.i64_in _ (by omega)
  obtain ⟨rl, hrl⟩ : ∃ rl, rl = (reqL (j : Int) hs).toArray := ⟨_, rfl⟩
  have hrv : reqV (j : Int) hs = .agg rl := by rw [hrl]; rfl
  rw [hrv]
  have HRL := Lib.hid hrl
  have d4 := fun o => (Kp.alloc (fun _ => False) w o).cell c4 (fun h => h)
  have d4f : ∀ o, (w.alloc o).frozen? ⟨V.b, 4, none⟩ = false := fun o => frozen_kp (Kp.alloc (fun _ => False) w o) HN.out.obj (fun h => h)
  have df : w.frozen? ⟨V.b, 4, none⟩ = false := cf 4
  clear c0 c1 c2 c3 c5 cf hvm h hst hnn hns hsm hrv hrl
  go_enter Try.func16, Try.ntmps16
  go_wp2_with fail
  obtain ⟨w1, hw1⟩ : ∃ w1, w1 = (w.setCell ⟨V.b, 4, none⟩ (.int .i64 ((n : Int) + 1))).alloc (.cells rl 46) := ⟨_, rfl⟩
  have ho1 : w1.heap[V.b]? = some (.cells #[V.vp, V.vo, V.vm, V.vi, .int .i64 ((n + 1 : Nat) : Int), V.vr] 71 (0, 0)) := by
    rw [hw1]
    refine (Kp.alloc (fun _ => False) _ _).heap ?_ (fun h => h)
    rw [heap_setCell_same _ V.b 4 _ 71 _ HN.out.obj]
    rfl
  have hb1 : w1.heap[w.heap.size]? = some (.cells rl 46 (0, 0)) := by
    rw [hw1]
    have := heap_alloc_new (w.setCell ⟨V.b, 4, none⟩ (.int .i64 ((n : Int) + 1))) (.cells rl 46)
    rwa [show (w.setCell ⟨V.b, 4, none⟩ (.int .i64 ((n : Int) + 1))).heap.size = w.heap.size by simp [World.setCell]] at this
  have k1 : Kp (fun k => k = V.b) w w1 := by rw [hw1]; exact (Kp.setCell (F := fun k => k = V.b) w (a := ⟨V.b, 4, none⟩) _ rfl).trans (Kp.alloc (fun k => k = V.b) _ _) fun _ h => .inl h
  have e3 : w1.cell? ⟨V.b, 3, none⟩ = some (.slice sm ns cm) := by rw [← HVM.out]; exact cell_of_row _ _ 3 _ _ _ ho1
  have e4 : w1.cell? ⟨V.b, 4, none⟩ = some (.int .i64 ((n : Int) + 1)) := cell_of_row _ _ 4 _ _ _ ho1
  have b0 : w1.cell? ⟨w.heap.size, 0, none⟩ = some (.int .i64 (j : Int)) := by rw [cell_of_row _ _ 0 _ _ _ hb1, HRL.out]; rfl
  rw [← hw1]
  have O1 := Lib.hid ho1
  have B1 := Lib.hid hb1
  have K1 := Lib.hid k1
  have E3 := Lib.hid e3
  have E4 := Lib.hid e4
  have B0 := Lib.hid b0
  clear hw1 ho1 hb1 k1 e3 e4 b0 d4 d4f df c4
  have j0 : (0 : Int) ≤ (j : Int) := by omega
  have j1 : (j : Int) < (ns : Int) := by omega
  have h0 : ¬ (j : Int) < 0 := by omega
  have h1 : ¬ (ns : Int) ≤ (j : Int) := by omega
  obtain ⟨gm, om, esm, hrm⟩ := HSM.out.2 (by omega : 0 < ns)
  have hgm := hom gm ⟨om, esm⟩
  have hgf : ¬ V.foot gm := HN.out.own_foot HN.out.mir (by decide) (by decide) (by decide) gm hgm
  subst esm
  have mc1 : w1.cell? ⟨gm, om + j, none⟩ = some (.pointer (some ⟨mb, 0, none⟩)) := by
    refine K1.out.cell ?_ (fun e => hgf (.inl e))
    exact hrm j _ (by simp [mirV, HMS.out])
  have MC1 := Lib.hid mc1
  have M1 : Hid (MirP w1 B (mb, mv) l a) := Lib.hid (HM.out.keep K1.out hmb (fun k hk e => hscr k hk (.inl e)))
  have nmb : ¬ V.b = mb := fun e => hmb e.symm
  have ngm : ¬ gm = mb := fun e => hgf (.inr (.inr ⟨_, List.mem_of_getElem? HMS.out, e.symm⟩))
  have nR : ¬ w.heap.size = mb := by omega
  have hw1 : w.heap.size < w1.heap.size := (Array.getElem?_eq_some_iff.1 B1.out).1
  clear hrm mc1 hom
  refine wp_region_held_drew (S := Kp (fun _ => False) w1) (by kernel_rfl) (Kp.drew _ _) (fun hHeld => ?_)
  refine wpAnyH_take (i := 0) (v := ?v19) rfl (by kernel_rfl) (by kernel_rfl) (by kernel_rfl) (fun _ _ _ h => h) (Or.inl ⟨by rfl, ?y19⟩) (by assumption) ?r19
  case y19 =>
    intro wq hSw
    clear hSw
    go_simp
    with_reducible rfl
  simp only [Act.put, List.getElem_toArray, List.getElem_cons_succ, List.getElem_cons_zero, List.setIfInBounds_toArray, List.set_cons_zero, List.set_cons_succ]
  refine wpAnyH_take (i := 1) (v := ?v20) rfl (by kernel_rfl) (by kernel_rfl) (by kernel_rfl) (fun _ _ _ h => h) (Or.inl ⟨by rfl, ?y20⟩) (by assumption) ?r20
  case y20 =>
    intro wq hSw
    have q0 := hSw.cell B0.out (fun h => h)
    clear hSw
    go_simp
    with_reducible rfl
  simp only [Act.put, List.getElem_toArray, List.getElem_cons_succ, List.getElem_cons_zero, List.setIfInBounds_toArray, List.set_cons_zero, List.set_cons_succ]
  refine wpAnyH_take (i := 2) (v := ?v21) rfl (by kernel_rfl) (by kernel_rfl) (by kernel_rfl) (fun _ _ _ h => h) (Or.inl ⟨by rfl, ?y21⟩) (by assumption) ?r21
  case y21 =>
    intro wq hSw
    clear hSw
    go_simp
    with_reducible rfl
  simp only [Act.put, List.getElem_toArray, List.getElem_cons_succ, List.getElem_cons_zero, List.setIfInBounds_toArray, List.set_cons_zero, List.set_cons_succ]
  refine wpAnyH_take (i := 3) (v := ?v22) rfl (by kernel_rfl) (by kernel_rfl) (by kernel_rfl) (fun _ _ _ h => h) (Or.inl ⟨by rfl, ?y22⟩) (by assumption) ?r22
  case y22 =>
    intro wq hSw
    clear hSw
    go_simp
    with_reducible rfl
  simp only [Act.put, List.getElem_toArray, List.getElem_cons_succ, List.getElem_cons_zero, List.setIfInBounds_toArray, List.set_cons_zero, List.set_cons_succ]
  refine wpAnyH_take (i := 4) (v := ?v23) rfl (by kernel_rfl) (by kernel_rfl) (by kernel_rfl) (fun _ _ _ h => h) (Or.inl ⟨by rfl, ?y23⟩) (by assumption) ?r23
  case y23 =>
    intro wq hSw
    clear hSw
    go_simp
    with_reducible rfl
  simp only [Act.put, List.getElem_toArray, List.getElem_cons_succ, List.getElem_cons_zero, List.setIfInBounds_toArray, List.set_cons_zero, List.set_cons_succ]
  refine wpAnyH_take (i := 5) (v := ?v24) rfl (by kernel_rfl) (by kernel_rfl) (by kernel_rfl) (fun _ _ _ h => h) (Or.inl ⟨by rfl, ?y24⟩) (by assumption) ?r24
  case y24 =>
    intro wq hSw
    have q0 := hSw.cell B0.out (fun h => h)
    clear hSw
    go_simp
    with_reducible rfl
  simp only [Act.put, List.getElem_toArray, List.getElem_cons_succ, List.getElem_cons_zero, List.setIfInBounds_toArray, List.set_cons_zero, List.set_cons_succ]
  refine wpAnyH_take (i := 6) (v := ?v25) rfl (by kernel_rfl) (by kernel_rfl) (by kernel_rfl) (fun _ _ _ h => h) (Or.inl ⟨by rfl, ?y25⟩) (by assumption) ?r25
  case y25 =>
    intro wq hSw
    clear hSw
    go_simp
    with_reducible rfl
  simp only [Act.put, List.getElem_toArray, List.getElem_cons_succ, List.getElem_cons_zero, List.setIfInBounds_toArray, List.set_cons_zero, List.set_cons_succ]
  refine wpAnyH_take (i := 7) (v := ?v26) rfl (by kernel_rfl) (by kernel_rfl) (by kernel_rfl) (fun _ _ _ h => h) (Or.inl ⟨by rfl, ?y26⟩) (by assumption) ?r26
  case y26 =>
    intro wq hSw
    clear hSw
    go_simp
    with_reducible rfl
  simp only [Act.put, List.getElem_toArray, List.getElem_cons_succ, List.getElem_cons_zero, List.setIfInBounds_toArray, List.set_cons_zero, List.set_cons_succ]
  refine wpAnyH_take (i := 8) (v := ?v27) rfl (by kernel_rfl) (by kernel_rfl) (by kernel_rfl) (fun _ _ _ h => h) (Or.inl ⟨by rfl, ?y27⟩) (by assumption) ?r27
  case y27 =>
    intro wq hSw
    clear hSw
    go_simp
    with_reducible rfl
  simp only [Act.put, List.getElem_toArray, List.getElem_cons_succ, List.getElem_cons_zero, List.setIfInBounds_toArray, List.set_cons_zero, List.set_cons_succ]
  refine wpAnyH_take (i := 9) (v := ?v28) rfl (by kernel_rfl) (by kernel_rfl) (by kernel_rfl) (fun _ _ _ h => h) (Or.inl ⟨by rfl, ?y28⟩) (by assumption) ?r28
  case y28 =>
    intro wq hSw
    have q0 := hSw.cell E3.out (fun h => h)
    clear hSw
    go_simp
    with_reducible rfl
  simp only [Act.put, List.getElem_toArray, List.getElem_cons_succ, List.getElem_cons_zero, List.setIfInBounds_toArray, List.set_cons_zero, List.set_cons_succ]
  refine wpAnyH_take (i := 10) (v := ?v29) rfl (by kernel_rfl) (by kernel_rfl) (by kernel_rfl) (fun _ _ _ h => h) (Or.inl ⟨by rfl, ?y29⟩) (by assumption) ?r29
  case y29 =>
    intro wq hSw
    clear hSw
    go_simp
    with_reducible rfl
  simp only [Act.put, List.getElem_toArray, List.getElem_cons_succ, List.getElem_cons_zero, List.setIfInBounds_toArray, List.set_cons_zero, List.set_cons_succ]
  refine wpAnyH_take (i := 11) (v := ?v30) rfl (by kernel_rfl) (by kernel_rfl) (by kernel_rfl) (fun _ _ _ h => h) (Or.inl ⟨by rfl, ?y30⟩) (by assumption) ?r30
  case y30 =>
    intro wq hSw
    clear hSw
    go_simp
    with_reducible rfl
  simp only [Act.put, List.getElem_toArray, List.getElem_cons_succ, List.getElem_cons_zero, List.setIfInBounds_toArray, List.set_cons_zero, List.set_cons_succ]
  refine wpAnyH_take (i := 12) (v := ?v31) rfl (by kernel_rfl) (by kernel_rfl) (by kernel_rfl) (fun _ _ _ h => h) (Or.inl ⟨by rfl, ?y31⟩) (by assumption) ?r31
  case y31 =>
    intro wq hSw
    clear hSw
    go_simp
    with_reducible rfl
  simp only [Act.put, List.getElem_toArray, List.getElem_cons_succ, List.getElem_cons_zero, List.setIfInBounds_toArray, List.set_cons_zero, List.set_cons_succ]
  refine wpAnyH_done (by kernel_rfl) ?_ _
  have kf := hHeld
  have KF := Lib.hid kf
  clear hHeld kf
  go_upto_region 6 with (fail)
  go_cut [7] (fun s7 wx => NextRel w1 B (mb, mv) l a x s7 wx)
  case first =>
    have nmb0 := nmb
    refine wp_region_held_drew (S := Kp (fun k => k = mb) w1) (by kernel_rfl) ((Kp.drew (fun _ => False) w1).zero.trans (Kp.drew (fun k => k = mb) _) fun _ h => .inl h) (fun hHeld => ?_)
    refine wpAnyH_take (i := 0) (v := ?v32) rfl (by kernel_rfl) (by kernel_rfl) (by kernel_rfl) (fun _ _ _ h => h) (Or.inl ⟨by rfl, ?y32⟩) (by assumption) ?r32
    case y32 =>
      intro wq hSw
      clear hSw
      go_simp
      with_reducible rfl
    simp only [Act.put, List.getElem_toArray, List.getElem_cons_succ, List.getElem_cons_zero, List.setIfInBounds_toArray, List.set_cons_zero, List.set_cons_succ]
    refine wpAnyH_take (i := 1) (v := ?v33) rfl (by kernel_rfl) (by kernel_rfl) (by kernel_rfl) (fun _ _ _ h => h) (Or.inl ⟨by rfl, ?y33⟩) (by assumption) ?r33
    case y33 =>
      intro wq hSw
      clear hSw
      go_simp
      with_reducible rfl
    simp only [Act.put, List.getElem_toArray, List.getElem_cons_succ, List.getElem_cons_zero, List.setIfInBounds_toArray, List.set_cons_zero, List.set_cons_succ]
    refine wpAnyH_take (i := 2) (v := ?v34) rfl (by kernel_rfl) (by kernel_rfl) (by kernel_rfl) (fun _ _ _ h => h) (Or.inl ⟨by rfl, ?y34⟩) (by assumption) ?r34
    case y34 =>
      intro wq hSw
      clear hSw
      go_simp
      with_reducible rfl
    simp only [Act.put, List.getElem_toArray, List.getElem_cons_succ, List.getElem_cons_zero, List.setIfInBounds_toArray, List.set_cons_zero, List.set_cons_succ]
    refine wpAnyH_take (i := 3) (v := ?v35) rfl (by kernel_rfl) (by kernel_rfl) (by kernel_rfl) (fun _ _ _ h => h) (Or.inl ⟨by rfl, ?y35⟩) (by assumption) ?r35
    case y35 =>
      intro wq hSw
      have q0 := hSw.cell E3.out nmb0
      clear hSw
      go_simp
      with_reducible rfl
    simp only [Act.put, List.getElem_toArray, List.getElem_cons_succ, List.getElem_cons_zero, List.setIfInBounds_toArray, List.set_cons_zero, List.set_cons_succ]
    refine wpAnyH_take (i := 4) (v := ?v36) rfl (by kernel_rfl) (by kernel_rfl) (by kernel_rfl) (fun _ _ _ h => h) (Or.inl ⟨by rfl, ?y36⟩) (by assumption) ?r36
    case y36 =>
      intro wq hSw
      clear hSw
      go_simp
      with_reducible rfl
    simp only [Act.put, List.getElem_toArray, List.getElem_cons_succ, List.getElem_cons_zero, List.setIfInBounds_toArray, List.set_cons_zero, List.set_cons_succ]
    refine wpAnyH_take (i := 5) (v := ?v37) rfl (by kernel_rfl) (by kernel_rfl) (by kernel_rfl) (fun _ _ _ h => h) (Or.inl ⟨by rfl, ?y37⟩) (by assumption) ?r37
    case y37 =>
      intro wq hSw
      have q0 := hSw.cell B0.out nR
      clear hSw
      go_simp
      with_reducible rfl
    simp only [Act.put, List.getElem_toArray, List.getElem_cons_succ, List.getElem_cons_zero, List.setIfInBounds_toArray, List.set_cons_zero, List.set_cons_succ]
    refine wpAnyH_take (i := 6) (v := ?v38) rfl (by kernel_rfl) (by kernel_rfl) (by kernel_rfl) (fun _ _ _ h => h) (Or.inl ⟨by rfl, ?y38⟩) (by assumption) ?r38
    case y38 =>
      intro wq hSw
      clear hSw
      go_simp
      with_reducible rfl
    simp only [Act.put, List.getElem_toArray, List.getElem_cons_succ, List.getElem_cons_zero, List.setIfInBounds_toArray, List.set_cons_zero, List.set_cons_succ]
    refine wpAnyH_take (i := 7) (v := ?v39) rfl (by kernel_rfl) (by kernel_rfl) (by kernel_rfl) (fun _ _ _ h => h) (Or.inl ⟨by rfl, ?y39⟩) (by assumption) ?r39
    case y39 =>
      intro wq hSw
      have q0 := hSw.cell MC1.out ngm
      clear hSw
      go_simp
      with_reducible rfl
    simp only [Act.put, List.getElem_toArray, List.getElem_cons_succ, List.getElem_cons_zero, List.setIfInBounds_toArray, List.set_cons_zero, List.set_cons_succ]
    refine wpAnyH_ready (rs := [8, 9]) (by kernel_rfl) (by simp) ?_
    refine AllReadyH.cons rfl (fun K hK => ?_) (AllReadyH.cons rfl (fun K hK => ?_) AllReadyH.nil)
    · rw [if_pos (by rfl)]
      go_simp
      refine (next_at x HX.out (M1.out.keep ((Kp.drewN (fun _ => False) w1 2)) (fun h => h) (fun _ _ h => h)) ha1 hll).mono ?_
      rintro e w2 ⟨rfl, m2, k2⟩
      dsimp only
      have KB := Lib.hid (((Kp.drewN (fun _ => False) w1 2).zero (F := fun k => k = mb)).trans k2 fun _ h => .inl h)
      have MB := Lib.hid m2
      clear k2 m2
      refine hK.out _ _ KB.out (fun hHeld => ?_)
      clear hK K
      refine wpAnyH_ready (rs := [9]) (by kernel_rfl) (by simp) ?_
      refine AllReadyH.cons rfl (fun K hK => ?_) AllReadyH.nil
      rw [if_pos (by rfl)]
      go_simp
      refine hK.out _ _ (KB.out.trans (Kp.alloc (fun k => k = mb) _ _) fun _ h => .inl h) (fun hHeld => ?_)
      clear hK K
      refine wpAnyH_ready (rs := [10]) (by kernel_rfl) (by simp) ?_
      refine AllReadyH.cons rfl (fun K hK => ?_) AllReadyH.nil
      rw [if_pos (by rfl)]
      go_simp
      refine hK.out _ _ (KB.out.trans (Kp.alloc (fun k => k = mb) _ _) fun _ h => .inl h) (fun hHeld => ?_)
      clear hK K hHeld
      refine wpAnyH_done (by kernel_rfl) ?_ _
      go_wp2_with fail
      go_meet
      case rel => exact ⟨w2.heap.size, rfl, KB.out.size, heap_alloc_new w2 _, KB.out.trans (Kp.alloc (fun k => k = mb) _ _) fun _ h => .inl h, MB.out.keep (Kp.alloc (fun _ => False) w2 _) (fun h => h) (fun _ _ h => h)⟩
    · rw [if_pos (by rfl)]
      go_simp
      have KA := Lib.hid ((Kp.alloc (fun _ => False) w1 (.cells #[.int .i64 0, .int .i64 0, .int .i64 0] 42)).trans (Kp.drewN (fun _ => False) _ 2) fun _ (h : False) => h.elim)
      have RA : Hid (((w1.alloc (.cells #[.int .i64 0, .int .i64 0, .int .i64 0] 42)).drewN 2).heap[w1.heap.size]? = some (.cells #[.int .i64 0, .int .i64 0, .int .i64 0] 42 (0, 0))) := Lib.hid (heap_alloc_new w1 _)
      refine hK.out _ _ KA.out.zero (fun hHeld => ?_)
      clear hK K
      refine wpAnyH_ready (rs := [8]) (by kernel_rfl) (by simp) ?_
      refine AllReadyH.cons rfl (fun K hK => ?_) AllReadyH.nil
      rw [if_pos (by rfl)]
      go_simp
      refine (next_at x HX.out (M1.out.keep KA.out (fun h => h) (fun _ _ h => h)) ha1 hll).mono ?_
      rintro e w2 ⟨rfl, m2, k2⟩
      dsimp only
      have n7 : ¬ w1.heap.size = mb := by omega
      have z7 := k2.heap RA.out n7
      have KB := Lib.hid (KA.out.zero.trans k2 fun _ h => .inl h)
      have MB := Lib.hid m2
      have Z7 := Lib.hid z7
      have t0 : w2.cell? ⟨w1.heap.size, 0, none⟩ = some (.int .i64 0) := cell_of_row _ _ 0 _ _ _ z7
      have t1 : w2.cell? ⟨w1.heap.size, 1, none⟩ = some (.int .i64 0) := cell_of_row _ _ 1 _ _ _ z7
      have t2 : w2.cell? ⟨w1.heap.size, 2, none⟩ = some (.int .i64 0) := cell_of_row _ _ 2 _ _ _ z7
      have tf : ∀ q, w2.frozen? ⟨w1.heap.size, q, none⟩ = false := fun q => frozen_of_row _ _ q _ _ z7
      clear k2 m2 z7
      refine hK.out _ _ KB.out (fun hHeld => ?_)
      clear hK K
      refine wpAnyH_ready (rs := [10]) (by kernel_rfl) (by simp) ?_
      refine AllReadyH.cons rfl (fun K hK => ?_) AllReadyH.nil
      rw [if_pos (by rfl)]
      go_simp
      have KD : Hid (Kp (fun q => q = w1.heap.size) w2 (((w2.setCell ⟨w1.heap.size, 0, none⟩ (.int .i64 x.k)).setCell ⟨w1.heap.size, 1, none⟩ (.int .i64 x.d)).setCell ⟨w1.heap.size, 2, none⟩ (.int .i64 x.n))) := Lib.hid (((Kp.setCell (F := fun q => q = w1.heap.size) w2 (a := ⟨w1.heap.size, 0, none⟩) _ rfl).trans (Kp.setCell (F := fun q => q = w1.heap.size) _ (a := ⟨w1.heap.size, 1, none⟩) _ rfl) fun _ h => .inl h).trans (Kp.setCell (F := fun q => q = w1.heap.size) _ (a := ⟨w1.heap.size, 2, none⟩) _ rfl) fun _ h => .inl h)
      have RD := Lib.hid (heap_setCell_same _ _ 2 _ 42 (.int .i64 x.n) (heap_setCell_same _ _ 1 _ 42 (.int .i64 x.d) (heap_setCell_same _ _ 0 _ 42 (.int .i64 x.k) Z7.out)))
      refine hK.out _ _ (KB.out.trans KD.out fun q hq => .inr (by omega)) (fun hHeld => ?_)
      clear hK K hHeld t0 t1 t2 tf
      refine wpAnyH_done (by kernel_rfl) ?_ _
      go_wp2_with fail
      go_meet
      case rel =>
        refine ⟨w1.heap.size, rfl, Nat.le_refl _, RD.out, KB.out.trans KD.out fun q hq => .inr (by omega), MB.out.keep KD.out (fun e => n7 e.symm) fun q hq hq2 => ?_⟩
        have := (ownsRow_block HM.out.scr hq).2.1
        omega
  case rest =>
    obtain ⟨R7, rfl, hR7, h7, k7, m7⟩ := hcut
    have kV : Kp V.foot w wc := (K1.out.mono (G := V.foot) fun k hk => .inl (.inl hk)).trans k7 fun k hk => .inl (.inr (.inr ⟨_, List.mem_of_getElem? HMS.out, hk.symm⟩))
    have kVs : Kp (fun k => k = V.b ∨ k = mb) w wc := (K1.out.mono (G := fun k => k = V.b ∨ k = mb) fun k hk => .inl (.inl hk)).trans k7 fun k hk => .inl (.inr hk)
    have N7 : NetP wc B V st1 := by
      have hb := HN.out.build kV V.vr (s' := st1) (by rw [HST1.out]) (by rw [HST1.out]) (by rw [HST1.out]) (by rw [HST1.out, ← HNN.out]; exact k7.heap O1.out nmb) ?_ ?_ ?_
      · exact hb
      · intro i m' l' a' hm' hl' ha'
        rw [HST1.out] at ha'
        by_cases hij : i = j
        · subst hij
          rw [HMS.out] at hm'
          rw [HL1.out] at hl'
          rw [List.getElem?_set_self (by rw [HN.out.ok.la, ← HNS.out]; exact hj2)] at ha'
          cases hm'; cases hl'; cases ha'
          exact m7
        · rw [List.getElem?_set_ne (fun e => hij e.symm)] at ha'
          refine HN.out.mir_keep kVs (fun k hk => ?_) hm' hl' ha' ?_
          · rcases hk with hk | hk
            · exact .inl hk
            · exact .inr (.inr ⟨_, List.mem_of_getElem? HMS.out, hk.symm⟩)
          · rintro (e | e)
            · exact HN.out.b_mir (List.mem_of_getElem? hm') e
            · exact hij (HN.out.nd _ _ _ _ hm' HMS.out e)
      · rw [HST1.out]
        refine kVs.own HN.out.rep fun k hk e => ?_
        rcases e with e | e
        · exact HN.out.b_rep (by rw [hk, e])
        · exact HN.out.rep_mir (List.mem_of_getElem? HMS.out) (by rw [hk, e])
      · rw [HST1.out]
        exact nok_st1 HN.out.ok j a (HN.out.ok.ha a (List.mem_of_getElem? HA1.out)) (by rw [← HNN.out]; exact hn)
    have sz7 : w1.heap.size ≤ wc.heap.size := k7.size
    have B7 := k7.heap B1.out nR
    have HN7 := Lib.hid N7
    have HB7 := Lib.hid B7
    have H7 := Lib.hid h7
    have KV7 := Lib.hid kV
    have x0 : wc.cell? ⟨R7, 0, none⟩ = some (.int .i64 x.k) := cell_of_row _ _ 0 _ _ _ h7
    have X0 := Lib.hid x0
    have hn1 : st1.n = n + 1 := by rw [HST1.out, HNN.out]
    have hp1 : st1.packets = st.packets := by rw [HST1.out]
    have ho1 : st1.old = st.old := by rw [HST1.out]
    have HN1 := Lib.hid hn1
    have HP1 := Lib.hid hp1
    have HO1 := Lib.hid ho1
    clear kV kVs N7 B7 h7 k7 m7 x0 hn1 hp1 ho1 M1 MC1 E3 K1 O1 B1 B0 E4 KF
    go_wp2_with fail
    cases hkf : kindF x.k with
    | none =>
      have HKF := Lib.hid hkf
      clear hkf
      refine wp_region_held_drew (S := Kp (fun _ => False) wc) (by kernel_rfl) (Kp.drew _ _) (fun hHeld => ?_)
      refine wpAnyH_take (i := 1) (v := ?v40) rfl (by kernel_rfl) (by kernel_rfl) (by kernel_rfl) (fun _ _ _ h => h) (Or.inl ⟨by rfl, ?y40⟩) (by assumption) ?r40
      case y40 =>
        intro wq hSw
        clear hSw
        go_simp
        with_reducible rfl
      simp only [Act.put, List.getElem_toArray, List.getElem_cons_succ, List.getElem_cons_zero, List.setIfInBounds_toArray, List.set_cons_zero, List.set_cons_succ]
      refine wpAnyH_take (i := 2) (v := ?v41) rfl (by kernel_rfl) (by kernel_rfl) (by kernel_rfl) (fun _ _ _ h => h) (Or.inl ⟨by rfl, ?y41⟩) (by assumption) ?r41
      case y41 =>
        intro wq hSw
        have q0 := hSw.cell X0.out (fun h => h)
        clear hSw
        go_simp
        with_reducible rfl
      simp only [Act.put, List.getElem_toArray, List.getElem_cons_succ, List.getElem_cons_zero, List.setIfInBounds_toArray, List.set_cons_zero, List.set_cons_succ]
      refine wpAnyH_ready (rs := [0]) (by kernel_rfl) (by simp) ?_
      refine AllReadyH.cons rfl (fun K hK => ?_) AllReadyH.nil
      rw [if_pos (by rfl)]
      go_simp
      refine (kinds_any _).mono ?_
      rintro e w' ⟨rfl, rfl⟩
      dsimp only
      refine hK.out _ _ (hHeld.trans (Kp.alloc (fun _ => False) _ _) fun _ (h : False) => h.elim) (fun hHeld => ?_)
      clear hK K
      refine wpAnyH_ready (rs := [3]) (by kernel_rfl) (by simp) ?_
      refine AllReadyH.cons rfl (fun K hK => ?_) AllReadyH.nil
      rw [if_pos (by rfl)]
      have hl := kinds_look ((wc.alloc (.map kindsE 6)).drew) wc.heap.size (heap_alloc_new wc _) x.k
      rw [HKF.out] at hl
      simp only [fnV] at hl
      go_simp
      clear hl
      refine hK.out _ _ (hHeld) (fun hHeld => ?_)
      clear hK K
      refine wpAnyH_take (i := 4) (v := ?v42) rfl (by kernel_rfl) (by kernel_rfl) (by kernel_rfl) (fun _ _ _ h => h) (Or.inl ⟨by rfl, ?y42⟩) (by assumption) ?r42
      case y42 =>
        intro wq hSw
        clear hSw
        go_simp
        with_reducible rfl
      simp only [Act.put, List.getElem_toArray, List.getElem_cons_succ, List.getElem_cons_zero, List.setIfInBounds_toArray, List.set_cons_zero, List.set_cons_succ]
      refine wpAnyH_take (i := 5) (v := ?v43) rfl (by kernel_rfl) (by kernel_rfl) (by kernel_rfl) (fun _ _ _ h => h) (Or.inl ⟨by rfl, ?y43⟩) (by assumption) ?r43
      case y43 =>
        intro wq hSw
        clear hSw
        go_simp
        with_reducible rfl
      simp only [Act.put, List.getElem_toArray, List.getElem_cons_succ, List.getElem_cons_zero, List.setIfInBounds_toArray, List.set_cons_zero, List.set_cons_succ]
      refine wpAnyH_take (i := 6) (v := ?v44) rfl (by kernel_rfl) (by kernel_rfl) (by kernel_rfl) (fun _ _ _ h => h) (Or.inl ⟨by rfl, ?y44⟩) (by assumption) ?r44
      case y44 =>
        intro wq hSw
        clear hSw
        go_simp
        with_reducible rfl
      simp only [Act.put, List.getElem_toArray, List.getElem_cons_succ, List.getElem_cons_zero, List.setIfInBounds_toArray, List.set_cons_zero, List.set_cons_succ]
      refine wpAnyH_take (i := 7) (v := ?v45) rfl (by kernel_rfl) (by kernel_rfl) (by kernel_rfl) (fun _ _ _ h => h) (Or.inl ⟨by rfl, ?y45⟩) (by assumption) ?r45
      case y45 =>
        intro wq hSw
        clear hSw
        go_simp
        with_reducible rfl
      simp only [Act.put, List.getElem_toArray, List.getElem_cons_succ, List.getElem_cons_zero, List.setIfInBounds_toArray, List.set_cons_zero, List.set_cons_succ]
      refine wpAnyH_take (i := 8) (v := ?v46) rfl (by kernel_rfl) (by kernel_rfl) (by kernel_rfl) (fun _ _ _ h => h) (Or.inl ⟨by rfl, ?y46⟩) (by assumption) ?r46
      case y46 =>
        intro wq hSw
        clear hSw
        go_simp
        with_reducible rfl
      simp only [Act.put, List.getElem_toArray, List.getElem_cons_succ, List.getElem_cons_zero, List.setIfInBounds_toArray, List.set_cons_zero, List.set_cons_succ]
      refine wpAnyH_done (by kernel_rfl) ?_ _
      have kf := hHeld
      have KF := Lib.hid kf
      clear hHeld kf
      have c4 := (obj_cells (KF.out.heap HN7.out.obj (fun h => h))).2.2.2.2.1
      rw [HN1.out] at c4
      go_wp2_with fail
      go_ret
      have he : askS st now (j : Int) hs = st1 := by
        rw [HST.out, HLL.out, meth_none _ _ _ _ HKF.out, HST1.out]
        simp
      rw [he]
      exact ⟨rfl, V.vr, HN7.out.keep0 KF.out, KV7.out.trans KF.out fun _ (h : False) => h.elim, fun k hk => .inl hk⟩
    | some f =>
      have HKF := Lib.hid hkf
      clear hkf
      refine wp_region_held_drew (S := Kp (fun _ => False) wc) (by kernel_rfl) (Kp.drew _ _) (fun hHeld => ?_)
      refine wpAnyH_take (i := 1) (v := ?v47) rfl (by kernel_rfl) (by kernel_rfl) (by kernel_rfl) (fun _ _ _ h => h) (Or.inl ⟨by rfl, ?y47⟩) (by assumption) ?r47
      case y47 =>
        intro wq hSw
        clear hSw
        go_simp
        with_reducible rfl
      simp only [Act.put, List.getElem_toArray, List.getElem_cons_succ, List.getElem_cons_zero, List.setIfInBounds_toArray, List.set_cons_zero, List.set_cons_succ]
      refine wpAnyH_take (i := 2) (v := ?v48) rfl (by kernel_rfl) (by kernel_rfl) (by kernel_rfl) (fun _ _ _ h => h) (Or.inl ⟨by rfl, ?y48⟩) (by assumption) ?r48
      case y48 =>
        intro wq hSw
        have q0 := hSw.cell X0.out (fun h => h)
        clear hSw
        go_simp
        with_reducible rfl
      simp only [Act.put, List.getElem_toArray, List.getElem_cons_succ, List.getElem_cons_zero, List.setIfInBounds_toArray, List.set_cons_zero, List.set_cons_succ]
      refine wpAnyH_ready (rs := [0]) (by kernel_rfl) (by simp) ?_
      refine AllReadyH.cons rfl (fun K hK => ?_) AllReadyH.nil
      rw [if_pos (by rfl)]
      go_simp
      refine (kinds_any _).mono ?_
      rintro e w' ⟨rfl, rfl⟩
      dsimp only
      refine hK.out _ _ (hHeld.trans (Kp.alloc (fun _ => False) _ _) fun _ (h : False) => h.elim) (fun hHeld => ?_)
      clear hK K
      refine wpAnyH_ready (rs := [3]) (by kernel_rfl) (by simp) ?_
      refine AllReadyH.cons rfl (fun K hK => ?_) AllReadyH.nil
      rw [if_pos (by rfl)]
      have hl := kinds_look ((wc.alloc (.map kindsE 6)).drew) wc.heap.size (heap_alloc_new wc _) x.k
      rw [HKF.out] at hl
      simp only [fnV] at hl
      go_simp
      clear hl
      refine hK.out _ _ (hHeld) (fun hHeld => ?_)
      clear hK K
      refine wpAnyH_take (i := 4) (v := ?v49) rfl (by kernel_rfl) (by kernel_rfl) (by kernel_rfl) (fun _ _ _ h => h) (Or.inl ⟨by rfl, ?y49⟩) (by assumption) ?r49
      case y49 =>
        intro wq hSw
        clear hSw
        go_simp
        with_reducible rfl
      simp only [Act.put, List.getElem_toArray, List.getElem_cons_succ, List.getElem_cons_zero, List.setIfInBounds_toArray, List.set_cons_zero, List.set_cons_succ]
      refine wpAnyH_take (i := 5) (v := ?v50) rfl (by kernel_rfl) (by kernel_rfl) (by kernel_rfl) (fun _ _ _ h => h) (Or.inl ⟨by rfl, ?y50⟩) (by assumption) ?r50
      case y50 =>
        intro wq hSw
        clear hSw
        go_simp
        with_reducible rfl
      simp only [Act.put, List.getElem_toArray, List.getElem_cons_succ, List.getElem_cons_zero, List.setIfInBounds_toArray, List.set_cons_zero, List.set_cons_succ]
      refine wpAnyH_take (i := 6) (v := ?v51) rfl (by kernel_rfl) (by kernel_rfl) (by kernel_rfl) (fun _ _ _ h => h) (Or.inl ⟨by rfl, ?y51⟩) (by assumption) ?r51
      case y51 =>
        intro wq hSw
        clear hSw
        go_simp
        with_reducible rfl
      simp only [Act.put, List.getElem_toArray, List.getElem_cons_succ, List.getElem_cons_zero, List.setIfInBounds_toArray, List.set_cons_zero, List.set_cons_succ]
      refine wpAnyH_take (i := 7) (v := ?v52) rfl (by kernel_rfl) (by kernel_rfl) (by kernel_rfl) (fun _ _ _ h => h) (Or.inl ⟨by rfl, ?y52⟩) (by assumption) ?r52
      case y52 =>
        intro wq hSw
        clear hSw
        go_simp
        with_reducible rfl
      simp only [Act.put, List.getElem_toArray, List.getElem_cons_succ, List.getElem_cons_zero, List.setIfInBounds_toArray, List.set_cons_zero, List.set_cons_succ]
      refine wpAnyH_take (i := 8) (v := ?v53) rfl (by kernel_rfl) (by kernel_rfl) (by kernel_rfl) (fun _ _ _ h => h) (Or.inl ⟨by rfl, ?y53⟩) (by assumption) ?r53
      case y53 =>
        intro wq hSw
        clear hSw
        go_simp
        with_reducible rfl
      simp only [Act.put, List.getElem_toArray, List.getElem_cons_succ, List.getElem_cons_zero, List.setIfInBounds_toArray, List.set_cons_zero, List.set_cons_succ]
      refine wpAnyH_done (by kernel_rfl) ?_ _
      have kf := hHeld
      have KF := Lib.hid kf
      clear hHeld kf
      obtain ⟨w4, hw4⟩ : ∃ w4, w4 = (wc.alloc (.map kindsE 6)).drew := ⟨_, rfl⟩
      have K4 : Hid (Kp (fun _ => False) wc w4) := Lib.hid (by rw [hw4]; exact (Kp.alloc _ _ _).trans (Kp.drew (fun _ => False) _) fun _ h => h.elim)
      have hx4 := K4.out.heap H7.out (fun h => h)
      have hb4 := K4.out.heap HB7.out (fun h => h)
      rw [← hw4]
      clear hw4 KF
      have N4 := Lib.hid (HN7.out.keep0 K4.out)
      have c2 := (obj_cells N4.out.obj).2.2.1
      have C2 := Lib.hid c2
      have X1 : Hid (w4.cell? ⟨R7, 1, none⟩ = some (.int .i64 x.d)) := Lib.hid (cell_of_row _ _ 1 _ _ _ hx4)
      have X2 : Hid (w4.cell? ⟨R7, 2, none⟩ = some (.int .i64 x.n)) := Lib.hid (cell_of_row _ _ 2 _ _ _ hx4)
      have rr : w4.rangeAt w.heap.size 1 (byteCells hs) := by
        intro q v hv
        rw [cell_of_row _ _ _ _ _ _ hb4, HRL.out]
        have e : (reqL (j : Int) hs)[1 + q]? = (byteCells hs)[q]? := by rw [Nat.add_comm]; rfl
        simpa [e] using hv
      have B4 := Lib.hid hb4
      have HX4 := Lib.hid hx4
      have hu := Try.underlying44
      have hi1 : (Try.prog.info? 44).map (·.size) = some (byteCells hs).length := info44.trans (by simp [byteCells, hh])
      obtain ⟨NL, hNL⟩ : ∃ N, N = L.length := ⟨_, rfl⟩
      have HNL := Lib.hid hNL
      have hS : (fun w' : World => w'.rangeAt w.heap.size 1 (byteCells hs) ∧ Kp (fun _ => False) w4 w') w4.drew := ⟨rr, Kp.drew _ _⟩
      clear hx4 hb4 c2 rr hNL
      go_wp2_with fail
      refine wp_region_held_drew (S := fun w' : World => w'.rangeAt w.heap.size 1 (byteCells hs) ∧ Kp (fun _ => False) w4 w') (by kernel_rfl) (hS) (fun hHeld => ?_)
      refine wpAnyH_take (i := 0) (v := ?v54) rfl (by kernel_rfl) (by kernel_rfl) (by kernel_rfl) (fun _ _ _ h => h) (Or.inl ⟨by rfl, ?y54⟩) (by assumption) ?r54
      case y54 =>
        intro wq hSw
        clear hSw
        go_simp
        with_reducible rfl
      simp only [Act.put, List.getElem_toArray, List.getElem_cons_succ, List.getElem_cons_zero, List.setIfInBounds_toArray, List.set_cons_zero, List.set_cons_succ]
      refine wpAnyH_take (i := 1) (v := ?v55) rfl (by kernel_rfl) (by kernel_rfl) (by kernel_rfl) (fun _ _ _ h => h) (Or.inl ⟨by rfl, ?y55⟩) (by assumption) ?r55
      case y55 =>
        intro wq hSw
        clear hSw
        go_simp
        with_reducible rfl
      simp only [Act.put, List.getElem_toArray, List.getElem_cons_succ, List.getElem_cons_zero, List.setIfInBounds_toArray, List.set_cons_zero, List.set_cons_succ]
      refine wpAnyH_take (i := 2) (v := ?v56) rfl (by kernel_rfl) (by kernel_rfl) (by kernel_rfl) (fun _ _ _ h => h) (Or.inl ⟨by rfl, ?y56⟩) (by assumption) ?r56
      case y56 =>
        intro wq hSw
        clear hSw
        go_simp
        with_reducible rfl
      simp only [Act.put, List.getElem_toArray, List.getElem_cons_succ, List.getElem_cons_zero, List.setIfInBounds_toArray, List.set_cons_zero, List.set_cons_succ]
      refine wpAnyH_take (i := 3) (v := ?v57) rfl (by kernel_rfl) (by kernel_rfl) (by kernel_rfl) (fun _ _ _ h => h) (Or.inl ⟨by rfl, ?y57⟩) (by assumption) ?r57
      case y57 =>
        intro wq hSw
        clear hSw
        go_simp
        with_reducible rfl
      simp only [Act.put, List.getElem_toArray, List.getElem_cons_succ, List.getElem_cons_zero, List.setIfInBounds_toArray, List.set_cons_zero, List.set_cons_succ]
      refine wpAnyH_take (i := 4) (v := ?v58) rfl (by kernel_rfl) (by kernel_rfl) (by kernel_rfl) (fun _ _ _ h => h) (Or.inl ⟨by rfl, ?y58⟩) (by assumption) ?r58
      case y58 =>
        intro wq hSw
        clear hSw
        go_simp
        with_reducible rfl
      simp only [Act.put, List.getElem_toArray, List.getElem_cons_succ, List.getElem_cons_zero, List.setIfInBounds_toArray, List.set_cons_zero, List.set_cons_succ]
      refine wpAnyH_take (i := 5) (v := ?v59) rfl (by kernel_rfl) (by kernel_rfl) (by kernel_rfl) (fun _ _ _ h => h) (Or.inl ⟨by rfl, ?y59⟩) (by assumption) ?r59
      case y59 =>
        intro wq hSw
        have q0 := hSw.2.cell C2.out (fun h => h)
        clear hSw
        go_simp
        with_reducible rfl
      simp only [Act.put, List.getElem_toArray, List.getElem_cons_succ, List.getElem_cons_zero, List.setIfInBounds_toArray, List.set_cons_zero, List.set_cons_succ]
      refine wpAnyH_take (i := 6) (v := ?v60) rfl (by kernel_rfl) (by kernel_rfl) (by kernel_rfl) (fun _ _ _ h => h) (Or.inl ⟨by rfl, ?y60⟩) (by assumption) ?r60
      case y60 =>
        intro wq hSw
        clear hSw
        go_simp
        with_reducible rfl
      simp only [Act.put, List.getElem_toArray, List.getElem_cons_succ, List.getElem_cons_zero, List.setIfInBounds_toArray, List.set_cons_zero, List.set_cons_succ]
      refine wpAnyH_take (i := 7) (v := _) rfl (by kernel_rfl) (by kernel_rfl) (by kernel_rfl) (fun _ _ _ h => h) (yieldsIf_load_mid (by rfl) _ _ rfl _ _ rfl _ _ (fun _ h => h.1) hu rfl hi1) (by assumption) ?_
      simp only [Act.put, List.getElem_toArray, List.getElem_cons_succ, List.getElem_cons_zero, List.setIfInBounds_toArray, List.set_cons_zero, List.set_cons_succ]
      refine wpAnyH_take (i := 8) (v := ?v61) rfl (by kernel_rfl) (by kernel_rfl) (by kernel_rfl) (fun _ _ _ h => h) (Or.inl ⟨by rfl, ?y61⟩) (by assumption) ?r61
      case y61 =>
        intro wq hSw
        have hm := (N4.out.mp.keep hSw.2 (fun _ _ h => h)).lookup hs hh
        clear hSw
        go_simp
        with_reducible rfl
      simp only [Act.put, List.getElem_toArray, List.getElem_cons_succ, List.getElem_cons_zero, List.setIfInBounds_toArray, List.set_cons_zero, List.set_cons_succ]
      refine wpAnyH_take (i := 9) (v := ?v62) rfl (by kernel_rfl) (by kernel_rfl) (by kernel_rfl) (fun _ _ _ h => h) (Or.inl ⟨by rfl, ?y62⟩) (by assumption) ?r62
      case y62 =>
        intro wq hSw
        clear hSw
        go_simp
        with_reducible rfl
      simp only [Act.put, List.getElem_toArray, List.getElem_cons_succ, List.getElem_cons_zero, List.setIfInBounds_toArray, List.set_cons_zero, List.set_cons_succ]
      refine wpAnyH_take (i := 10) (v := ?v63) rfl (by kernel_rfl) (by kernel_rfl) (by kernel_rfl) (fun _ _ _ h => h) (Or.inl ⟨by rfl, ?y63⟩) (by assumption) ?r63
      case y63 =>
        intro wq hSw
        have q0 := hSw.2.cell X2.out (fun h => h)
        clear hSw
        go_simp
        with_reducible rfl
      simp only [Act.put, List.getElem_toArray, List.getElem_cons_succ, List.getElem_cons_zero, List.setIfInBounds_toArray, List.set_cons_zero, List.set_cons_succ]
      refine wpAnyH_take (i := 13) (v := ?v64) rfl (by kernel_rfl) (by kernel_rfl) (by kernel_rfl) (fun _ _ _ h => h) (Or.inl ⟨by rfl, ?y64⟩) (by assumption) ?r64
      case y64 =>
        intro wq hSw
        clear hSw
        go_simp
        with_reducible rfl
      simp only [Act.put, List.getElem_toArray, List.getElem_cons_succ, List.getElem_cons_zero, List.setIfInBounds_toArray, List.set_cons_zero, List.set_cons_succ]
      refine wpAnyH_ready (rs := [11]) (by kernel_rfl) (by simp) ?_
      refine AllReadyH.cons rfl (fun K hK => ?_) AllReadyH.nil
      rw [if_pos (by rfl)]
      have hcf := meth_call HKF.out
      go_simp
      clear hcf
      refine (meth_any (N4.out.keep0 hHeld.2) x hs f HKF.out).mono ?_
      rintro e w5 ⟨v, rfl, hv, k5⟩
      rw [HP1.out, HO1.out, ← HLL.out] at hv
      obtain ⟨sp5, cap5, hv5, hsrc, hty⟩ := hv
      rw [← HNL.out] at hv5
      subst hv5
      dsimp only
      refine hK.out _ _ (⟨rangeAt_kp hHeld.1 k5 (fun h => h), hHeld.2.trans k5 fun _ (h : False) => h.elim⟩) (fun hHeld => ?_)
      clear hK K
      refine wpAnyH_take (i := 12) (v := ?v65) rfl (by kernel_rfl) (by kernel_rfl) (by kernel_rfl) (fun _ _ _ h => h) (Or.inl ⟨by rfl, ?y65⟩) (by assumption) ?r65
      case y65 =>
        intro wq hSw
        clear hSw
        go_simp
        with_reducible rfl
      simp only [Act.put, List.getElem_toArray, List.getElem_cons_succ, List.getElem_cons_zero, List.setIfInBounds_toArray, List.set_cons_zero, List.set_cons_succ]
      refine wpAnyH_done (by kernel_rfl) ?_ _
      have HTY := Lib.hid hty
      have k5' := hHeld.2
      have K5 := Lib.hid k5'
      have HSRC := Lib.hid hsrc
      clear hHeld hS k5' k5 hsrc hty
      obtain ⟨rs, hrs⟩ : ∃ rs : List Rp, rs = L.map fun b => ⟨(st.n : Int) + 1, (j : Int), now + max x.d 0, b⟩ := ⟨_, rfl⟩
      have hrl2 : rs.length = NL := by rw [hrs, List.length_map, HNL.out]
      have hNL2 : NL ≤ 2 := by rw [HNL.out, HLL.out]; exact bytesS_len _ _ _ _
      have hr1 : st1.replies = st.replies := by rw [HST1.out]
      have hok1 : ∀ k, k ≤ NL → NOk { st1 with replies := st1.replies ++ rs.take k } := by
        intro k hk
        have o := HN7.out.ok
        refine ⟨o.hp, o.ho, o.lp, o.lo, o.la, o.ls, o.hs, o.ha, o.hn, ?_⟩
        have h1 := HN.out.ok.lr
        simp only [List.length_append, List.length_take, hr1, HN1.out]
        have h2 := HNN.out
        omega
      have N5 : NetP w5 B V st1 := N4.out.keep0 K5.out
      have K45 := Lib.hid (KV7.out.trans ((K4.out.trans K5.out fun _ (h : False) => h.elim)) fun _ (h : False) => h.elim)
      have hx5 := K5.out.heap HX4.out (fun h => h)
      have hb5 := K5.out.heap B4.out (fun h => h)
      have HX5 := Lib.hid hx5
      have HB5 := Lib.hid hb5
      have HRS := Lib.hid hrs
      have HRL2 := Lib.hid hrl2
      have HOK1 := Lib.hid hok1
      have HR1 := Lib.hid hr1
      have HN5 := Lib.hid N5
      have nfR : ¬ V.foot w.heap.size := N5.not_foot hb5 (by decide) (by decide) (by decide)
      have nfX : ¬ V.foot R7 := N5.not_foot hx5 (by decide) (by decide) (by decide)
      obtain ⟨md, hmd⟩ : ∃ md : Int, max x.d 0 = md := ⟨_, rfl⟩
      have hxd := (HN.out.ok.hs l (List.mem_of_getElem? HL1.out)).2
      have hmd1 : md ≤ 1000000 := by
        have : x.d ≤ 1000000 := by
          have hx := HX.out
          unfold behS at hx
          split at hx
          · rename_i y hy
            rw [← hx]
            exact hxd y (List.mem_of_getElem? hy)
          · rw [← hx]; decide
        omega
      have hmd0 : 0 ≤ md := by omega
      have hif : (if x.d < 0 then (0 : Int) else x.d) = md := by rw [← hmd]; split <;> omega
      have hwa : IntKind.i64.wrap (now + md) = now + md := IntWalk.i64_in _ (by omega)
      have HMD := Lib.hid hmd
      clear hrs hrl2 hok1 hr1 N5 hx5 hb5 hxd hmd N4 K5 K4 X1 X2 C2 H7 HB7 X0
      go_wp2_with fail
      go_loopw [68] (fun i wr => RepRel w5 B V st1 rs i wr) (fun i _ => NL - (Go.RowKit.intOf i).toNat)
      case atStart =>
        refine ⟨0, V.vr, rfl, by omega, ?_, Kp.refl _ _, fun q hq => .inl hq⟩
        have := HN5.out
        simpa using this
      case round =>
        obtain ⟨k, vr', rfl, hk, hNr, hkp, hloc⟩ := hrel
        rw [HRL2.out] at hk
        have HNR := Lib.hid hNr
        have HKP := Lib.hid hkp
        have HLOC := Lib.hid hloc
        have hxr := hkp.heap HX5.out nfX
        have hbr := hkp.heap HB5.out nfR
        have hnr : ({ st1 with replies := st1.replies ++ rs.take k } : NS).n = n + 1 := HN1.out
        obtain ⟨c0, c1, c2, c3, c4, c5, cf⟩ := obj_cells hNr.obj
        dsimp only at c4 c5 cf
        rw [HN1.out] at c4
        have C4 : Hid (wr.cell? ⟨V.b, 4, none⟩ = some (.int .i64 ((n : Int) + 1))) := Lib.hid c4
        have C5 := Lib.hid c5
        have CF := Lib.hid (cf 5)
        have hobj := hNr.obj
        dsimp only at hobj
        have HOBJ := Lib.hid hobj
        have R0 : Hid (wr.cell? ⟨w.heap.size, 0, none⟩ = some (.int .i64 (j : Int))) := Lib.hid (by rw [cell_of_row _ _ 0 _ _ _ hbr, HRL.out]; rfl)
        have XD : Hid (wr.cell? ⟨R7, 1, none⟩ = some (.int .i64 x.d)) := Lib.hid (cell_of_row _ _ 1 _ _ _ hxr)
        have nb5 : ¬ vr'.ownBlock = some V.b := hNr.b_rep
        have nR5 : ¬ vr'.ownBlock = some w.heap.size := other_type hNr.rep hbr (by decide)
        have nX5 : ¬ vr'.ownBlock = some R7 := other_type hNr.rep hxr (by decide)
        clear hNr hkp hloc hxr hbr hnr c0 c1 c2 c3 c4 c5 cf hobj
        by_cases hlt : k < NL
        · obtain ⟨b, hb⟩ : ∃ b, L[k]? = some b := ⟨_, List.getElem?_eq_getElem (by rw [← HNL.out]; exact hlt)⟩
          obtain ⟨g5, o5, esp, hr5⟩ := HSRC.out.2 (by rw [← HNL.out]; omega)
          subst esp
          obtain ⟨cs5, h5⟩ := HTY.out g5 ⟨o5, rfl⟩
          have hcs : wr.cell? ⟨g5, o5 + k, none⟩ = some (.string b) :=
            HKP.out.cell (hr5 k _ (by simp [strV, hb])) (HN5.out.not_foot h5 (by decide) (by decide) (by decide))
          have hrk : rs[k]? = some ⟨(n : Int) + 1, (j : Int), now + md, b⟩ := by rw [HRS.out, List.getElem?_map, hb, HMD.out, HNN.out]; rfl
          have HRK := Lib.hid hrk
          have k0 : (0 : Int) ≤ (k : Int) := by omega
          have k1 : (k : Int) < (NL : Int) := by omega
          obtain ⟨i0, hi, hz0, hz1, hz2⟩ := info_parts info50
          clear hr5 h5 hb hrk
          go_wp2_with fail
          refine wp_region_last (S := Kp (fun q => vr'.ownBlock = some q) wr) 22 (by kernel_rfl) ((Kp.drew (fun _ => False) wr).zero) (fun hHeld => ?_)
          refine wpAnyL_take (i := 0) (v := ?v66) rfl (by kernel_rfl) (by kernel_rfl) (by kernel_rfl) (fun _ _ _ h => h) (Or.inl ⟨by rfl, ?y66⟩) (by assumption) ?r66
          case y66 =>
            intro wq hSw
            clear hSw
            go_simp
            with_reducible rfl
          simp only [Act.put, List.getElem_toArray, List.getElem_cons_succ, List.getElem_cons_zero, List.setIfInBounds_toArray, List.set_cons_zero, List.set_cons_succ]
          refine wpAnyL_take (i := 1) (v := ?v67) rfl (by kernel_rfl) (by kernel_rfl) (by kernel_rfl) (fun _ _ _ h => h) (Or.inl ⟨by rfl, ?y67⟩) (by assumption) ?r67
          case y67 =>
            intro wq hSw
            clear hSw
            go_simp
            with_reducible rfl
          simp only [Act.put, List.getElem_toArray, List.getElem_cons_succ, List.getElem_cons_zero, List.setIfInBounds_toArray, List.set_cons_zero, List.set_cons_succ]
          refine wpAnyL_take (i := 2) (v := ?v68) rfl (by kernel_rfl) (by kernel_rfl) (by kernel_rfl) (fun _ _ _ h => h) (Or.inl ⟨by rfl, ?y68⟩) (by assumption) ?r68
          case y68 =>
            intro wq hSw
            clear hSw
            go_simp
            with_reducible rfl
          simp only [Act.put, List.getElem_toArray, List.getElem_cons_succ, List.getElem_cons_zero, List.setIfInBounds_toArray, List.set_cons_zero, List.set_cons_succ]
          refine wpAnyL_take (i := 3) (v := ?v69) rfl (by kernel_rfl) (by kernel_rfl) (by kernel_rfl) (fun _ _ _ h => h) (Or.inl ⟨by rfl, ?y69⟩) (by assumption) ?r69
          case y69 =>
            intro wq hSw
            clear hSw
            go_simp
            with_reducible rfl
          simp only [Act.put, List.getElem_toArray, List.getElem_cons_succ, List.getElem_cons_zero, List.setIfInBounds_toArray, List.set_cons_zero, List.set_cons_succ]
          refine wpAnyL_take (i := 4) (v := ?v70) rfl (by kernel_rfl) (by kernel_rfl) (by kernel_rfl) (fun _ _ _ h => h) (Or.inl ⟨by rfl, ?y70⟩) (by assumption) ?r70
          case y70 =>
            intro wq hSw
            have q0 := hSw.cell C5.out nb5
            clear hSw
            go_simp
            with_reducible rfl
          simp only [Act.put, List.getElem_toArray, List.getElem_cons_succ, List.getElem_cons_zero, List.setIfInBounds_toArray, List.set_cons_zero, List.set_cons_succ]
          refine wpAnyL_take (i := 5) (v := ?v71) rfl (by kernel_rfl) (by kernel_rfl) (by kernel_rfl) (fun _ _ _ h => h) (Or.inl ⟨by rfl, ?y71⟩) (by assumption) ?r71
          case y71 =>
            intro wq hSw
            clear hSw
            go_simp
            with_reducible rfl
          simp only [Act.put, List.getElem_toArray, List.getElem_cons_succ, List.getElem_cons_zero, List.setIfInBounds_toArray, List.set_cons_zero, List.set_cons_succ]
          refine wpAnyL_take (i := 6) (v := ?v72) rfl (by kernel_rfl) (by kernel_rfl) (by kernel_rfl) (fun _ _ _ h => h) (Or.inl ⟨by rfl, ?y72⟩) (by assumption) ?r72
          case y72 =>
            intro wq hSw
            clear hSw
            go_simp
            with_reducible rfl
          simp only [Act.put, List.getElem_toArray, List.getElem_cons_succ, List.getElem_cons_zero, List.setIfInBounds_toArray, List.set_cons_zero, List.set_cons_succ]
          refine wpAnyL_take (i := 7) (v := ?v73) rfl (by kernel_rfl) (by kernel_rfl) (by kernel_rfl) (fun _ _ _ h => h) (Or.inl ⟨by rfl, ?y73⟩) (by assumption) ?r73
          case y73 =>
            intro wq hSw
            clear hSw
            go_simp
            with_reducible rfl
          simp only [Act.put, List.getElem_toArray, List.getElem_cons_succ, List.getElem_cons_zero, List.setIfInBounds_toArray, List.set_cons_zero, List.set_cons_succ]
          refine wpAnyL_take (i := 8) (v := ?v74) rfl (by kernel_rfl) (by kernel_rfl) (by kernel_rfl) (fun _ _ _ h => h) (Or.inl ⟨by rfl, ?y74⟩) (by assumption) ?r74
          case y74 =>
            intro wq hSw
            have q0 := hSw.cell C4.out nb5
            clear hSw
            go_simp
            with_reducible rfl
          simp only [Act.put, List.getElem_toArray, List.getElem_cons_succ, List.getElem_cons_zero, List.setIfInBounds_toArray, List.set_cons_zero, List.set_cons_succ]
          refine wpAnyL_take (i := 9) (v := ?v75) rfl (by kernel_rfl) (by kernel_rfl) (by kernel_rfl) (fun _ _ _ h => h) (Or.inl ⟨by rfl, ?y75⟩) (by assumption) ?r75
          case y75 =>
            intro wq hSw
            clear hSw
            go_simp
            with_reducible rfl
          simp only [Act.put, List.getElem_toArray, List.getElem_cons_succ, List.getElem_cons_zero, List.setIfInBounds_toArray, List.set_cons_zero, List.set_cons_succ]
          refine wpAnyL_take (i := 10) (v := ?v76) rfl (by kernel_rfl) (by kernel_rfl) (by kernel_rfl) (fun _ _ _ h => h) (Or.inl ⟨by rfl, ?y76⟩) (by assumption) ?r76
          case y76 =>
            intro wq hSw
            have q0 := hSw.cell R0.out nR5
            clear hSw
            go_simp
            with_reducible rfl
          simp only [Act.put, List.getElem_toArray, List.getElem_cons_succ, List.getElem_cons_zero, List.setIfInBounds_toArray, List.set_cons_zero, List.set_cons_succ]
          refine wpAnyL_take (i := 11) (v := ?v77) rfl (by kernel_rfl) (by kernel_rfl) (by kernel_rfl) (fun _ _ _ h => h) (Or.inl ⟨by rfl, ?y77⟩) (by assumption) ?r77
          case y77 =>
            intro wq hSw
            clear hSw
            go_simp
            with_reducible rfl
          simp only [Act.put, List.getElem_toArray, List.getElem_cons_succ, List.getElem_cons_zero, List.setIfInBounds_toArray, List.set_cons_zero, List.set_cons_succ]
          refine wpAnyL_take (i := 12) (v := ?v78) rfl (by kernel_rfl) (by kernel_rfl) (by kernel_rfl) (fun _ _ _ h => h) (Or.inl ⟨by rfl, ?y78⟩) (by assumption) ?r78
          case y78 =>
            intro wq hSw
            clear hSw
            go_simp
            with_reducible rfl
          simp only [Act.put, List.getElem_toArray, List.getElem_cons_succ, List.getElem_cons_zero, List.setIfInBounds_toArray, List.set_cons_zero, List.set_cons_succ]
          refine wpAnyL_take (i := 13) (v := ?v79) rfl (by kernel_rfl) (by kernel_rfl) (by kernel_rfl) (fun _ _ _ h => h) (Or.inl ⟨by rfl, ?y79⟩) (by assumption) ?r79
          case y79 =>
            intro wq hSw
            have q0 := hSw.cell XD.out nX5
            clear hSw
            go_simp
            with_reducible rfl
          simp only [Act.put, List.getElem_toArray, List.getElem_cons_succ, List.getElem_cons_zero, List.setIfInBounds_toArray, List.set_cons_zero, List.set_cons_succ]
          refine wpAnyL_take (i := 14) (v := ?v80) rfl (by kernel_rfl) (by kernel_rfl) (by kernel_rfl) (fun _ _ _ h => h) (Or.inl ⟨by rfl, ?y80⟩) (by assumption) ?r80
          case y80 =>
            intro wq hSw
            clear hSw
            go_simp
            with_reducible rfl
          simp only [Act.put, List.getElem_toArray, List.getElem_cons_succ, List.getElem_cons_zero, List.setIfInBounds_toArray, List.set_cons_zero, List.set_cons_succ]
          refine wpAnyL_take (i := 15) (v := ?v81) rfl (by kernel_rfl) (by kernel_rfl) (by kernel_rfl) (fun _ _ _ h => h) (Or.inl ⟨by rfl, ?y81⟩) (by assumption) ?r81
          case y81 =>
            intro wq hSw
            clear hSw
            go_simp
            with_reducible rfl
          simp only [Act.put, List.getElem_toArray, List.getElem_cons_succ, List.getElem_cons_zero, List.setIfInBounds_toArray, List.set_cons_zero, List.set_cons_succ]
          refine wpAnyL_take (i := 16) (v := ?v82) rfl (by kernel_rfl) (by kernel_rfl) (by kernel_rfl) (fun _ _ _ h => h) (Or.inl ⟨by rfl, ?y82⟩) (by assumption) ?r82
          case y82 =>
            intro wq hSw
            clear hSw
            go_simp
            with_reducible rfl
          simp only [Act.put, List.getElem_toArray, List.getElem_cons_succ, List.getElem_cons_zero, List.setIfInBounds_toArray, List.set_cons_zero, List.set_cons_succ]
          refine wpAnyL_take (i := 17) (v := ?v83) rfl (by kernel_rfl) (by kernel_rfl) (by kernel_rfl) (fun _ _ _ h => h) (Or.inl ⟨by rfl, ?y83⟩) (by assumption) ?r83
          case y83 =>
            intro wq hSw
            clear hSw
            go_simp
            with_reducible rfl
          simp only [Act.put, List.getElem_toArray, List.getElem_cons_succ, List.getElem_cons_zero, List.setIfInBounds_toArray, List.set_cons_zero, List.set_cons_succ]
          refine wpAnyL_one (i := 18) (by kernel_rfl) rfl (fun K hK => ?_)
          rw [if_pos (by rfl)]
          go_simp
          refine hK.out _ _ (fun _ => hHeld.trans (Kp.alloc (fun q => vr'.ownBlock = some q) _ _) fun _ h => .inl h) (fun hHeld => ?_)
          replace hHeld := hHeld (by decide)
          clear hK K
          refine wpAnyL_one (i := 19) (by kernel_rfl) rfl (fun K hK => ?_)
          rw [if_pos (by rfl)]
          refine wp_append_src _ (.tmp 76) (.tmp 90) 61 rfl B 50 i0 (.agg #[.int .i64 0, .int .i64 0, .int .i64 0, .string emptyS]) 4 40 Try.underlying61 hi hz0 hz1 hz2 rfl (by decide) vr' (st1.replies ++ rs.take k).length (rps (st1.replies ++ rs.take k)) rfl (((Kp.alloc (fun _ => False) wr _).trans (Kp.drew (fun _ => False) _) fun _ (h : False) => h.elim).own HNR.out.rep fun _ _ h => h) (some ⟨wr.heap.size, 0, none⟩) 1 1 (rpCells ⟨(n : Int) + 1, (j : Int), now + md, b⟩) rfl (Src.one wr 50 4 _ rfl) (by intro u hu; simp [rpCells] at hu; rcases hu with rfl | rfl | rfl | rfl <;> rfl) ?_ ?_ ?_ ?_
          · have := HNR.out.ok.lr; have h2 := HNR.out.ok.hn; unfold maxLen; dsimp only at this h2; omega
          · have := HNR.out.ok.lr; have h2 := HNR.out.ok.hn; dsimp only at this h2; omega
          · have := HNR.out.hB; have h2 := HNR.out.lt; simp; dsimp only at this h2; omega
          intro v6 w6 own6 grow6 _loc6
          obtain ⟨sp6, cap6, hv6, _, _, _, _⟩ := Src.of_own own6
          obtain ⟨N6, hN6⟩ : ∃ N, N = (st1.replies ++ rs.take k).length + 1 := ⟨_, rfl⟩
          rw [← hN6] at hv6 own6
          have OWN6 := Lib.hid own6
          have LOC6 := Lib.hid _loc6
          have HN6 := Lib.hid hN6
          have HV6 := Lib.hid hv6
          have K6 := Lib.hid (hHeld.trans (Kp.grown (F := fun q => vr'.ownBlock = some q) grow6 fun q hq => hq) fun _ h => .inl h)
          rw [hv6]
          clear own6 grow6 _loc6 hN6 hv6
          refine hK.out _ _ (fun _ => K6.out) (fun hHeld => ?_)
          replace hHeld := hHeld (by decide)
          clear hK K
          refine wpAnyL_one (i := 20) (by kernel_rfl) rfl (fun K hK => ?_)
          rw [if_pos (by rfl)]
          go_simp
          refine hK.out _ _ (fun _ => hHeld) (fun hHeld => ?_)
          replace hHeld := hHeld (by decide)
          clear hK K
          refine wpAnyL_take (i := 21) (v := ?v84) rfl (by kernel_rfl) (by kernel_rfl) (by kernel_rfl) (fun _ _ _ h => h) (Or.inl ⟨by rfl, ?y84⟩) (by assumption) ?r84
          case y84 =>
            intro wq hSw
            clear hSw
            go_simp
            with_reducible rfl
          simp only [Act.put, List.getElem_toArray, List.getElem_cons_succ, List.getElem_cons_zero, List.setIfInBounds_toArray, List.set_cons_zero, List.set_cons_succ]
          refine wpAnyL_one (i := 22) (by kernel_rfl) rfl (fun K hK => ?_)
          have q5 := K6.out.cell C5.out nb5
          have qf := frozen_kp (i := 5) K6.out HOBJ.out nb5
          rw [if_pos (by rfl)]
          go_simp
          refine hK.out _ _ (fun h => absurd rfl h) (fun _ => ?_)
          clear hK K
          refine wpAnyL_done (by kernel_rfl) ?_ _
          go_wp2_with fail
          have hV6 := HV6.out
          have htk : rs.take (k + 1) = rs.take k ++ [⟨(n : Int) + 1, (j : Int), now + md, b⟩] := by
            obtain ⟨hlt2, he⟩ := List.getElem?_eq_some_iff.1 HRK.out
            rw [List.take_succ_eq_append_getElem hlt2, he]
          have hstep := rep_step ⟨(n : Int) + 1, (j : Int), now + md, b⟩ HNR.out K6.out (v6 := v6) (by have := OWN6.out; rw [HN6.out] at this; exact this) (by have := HOK1.out (k + 1) hlt; rw [htk, ← List.append_assoc] at this; exact this)
          rw [hV6] at hstep
          have kS : Kp (fun q => q = V.b ∨ vr'.ownBlock = some q) wr (w6.setCell ⟨V.b, 5, none⟩ (.slice sp6 N6 cap6)) := (K6.out.mono (G := fun q => q = V.b ∨ vr'.ownBlock = some q) fun q h => .inl (.inr h)).trans (Kp.setCell (F := fun q => q = V.b) w6 (a := ⟨V.b, 5, none⟩) _ rfl) fun q h => .inl (.inl h)
          refine ⟨⟨k + 1, .slice sp6 N6 cap6, by simp, by rw [HRL2.out]; omega, ?_, HKP.out.trans kS fun q hq => ?_, fun q hq => ?_⟩, by simp [Go.RowKit.intOf]; omega⟩
          · rw [htk, ← List.append_assoc]
            exact hstep
          · rcases hq with hq | hq
            · exact .inl (.inl hq)
            · rcases HLOC.out q hq with h | h
              · exact .inl (.inr (.inl h))
              · exact .inr h
          · rw [← hV6] at hq
            rcases LOC6.out with h | h
            · exact HLOC.out q (by rw [← h, hq])
            · rw [h] at hq
              cases hq
              refine .inr ?_
              have := HKP.out.size
              simp
              omega
        · obtain rfl : k = NL := by omega
          have q4 := C4.out
          go_wp2_with fail
          go_ret
          have htk : rs.take k = rs := List.take_of_length_le (by rw [HRL2.out]; omega)
          have he : askS st now (j : Int) hs = { st1 with replies := st1.replies ++ rs.take k } := by rw [htk, HR1.out, HRS.out, HST.out]
          rw [he]
          refine ⟨rfl, vr', HNR.out, K45.out.trans HKP.out fun q hq => .inl hq, fun q hq => ?_⟩
          rcases HLOC.out q hq with h | h
          · exact .inl h
          · have := K45.out.size
            exact .inr (by omega)

theorem ask_any {w : World} {B : Nat} {V : NV} {st : NS} (h : NetP w B V st) (now mir : Int) (hs : List UInt8) (hh : hs.length = 32) (hn : st.n < 100000) (hnow : -1000000 ≤ now ∧ now ≤ 1000000) :
    Calls Try.prog 16 #[.pointer (some ⟨V.b, 0, none⟩), .int .i64 now, reqV mir hs] w (AskPost w B V (askS st now mir hs) (.int .i64 ((st.n : Int) + 1))) := by
  by_cases hf : mir < 0 ∨ (st.scripts.length : Int) ≤ mir
  · exact ask_far h now mir hs hn hf
  · obtain ⟨j, rfl⟩ : ∃ j : Nat, mir = (j : Int) := ⟨mir.toNat, by omega⟩
    exact ask_near h now j hs hh hn (by omega) hnow

theorem ask_nil (now mir : Int) (hs : List UInt8) (w : World) : Calls Try.prog 16 #[.pointer none, .int .i64 now, reqV mir hs] w fun e w' => e = .returned (.int .i64 0) ∧ Kp (fun _ => False) w w' := by
  obtain ⟨rl, hrl⟩ : ∃ rl, rl = (reqL mir hs).toArray := ⟨_, rfl⟩
  have hrv : reqV mir hs = .agg rl := by rw [hrl]; rfl
  rw [hrv]
  clear hrl hrv
  go_enter Try.func16, Try.ntmps16
  go_wp2_with fail
  go_ret
  exact ⟨rfl, Kp.alloc _ _ _⟩

end Go.Proofs.Ytlkamfmepjddkaa
