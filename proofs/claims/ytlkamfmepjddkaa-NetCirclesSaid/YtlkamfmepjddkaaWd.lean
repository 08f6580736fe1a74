/- Walk: a request to the model. -/
import Derived.Test.YtlkamfmepjddkaaN6
import Derived.Deep.DeepCutAuto
set_option linter.unusedSimpArgs false
set_option linter.unusedVariables false
namespace Go.Proofs.Ytlkamfmepjddkaa
open Go.RowKit Go.Lib Go.Maps

set_option maxRecDepth 100000 in
set_option maxHeartbeats 4000000 in
theorem rask_far {w : World} {B : Nat} {V : RV} {st : NS} (h : RefP w B V st) (now mir : Int) (hs : List UInt8) (hn : st.n < 100000) (hfar : mir < 0 ∨ (st.scripts.length : Int) ≤ mir) :
    Calls Try.prog 22 #[.pointer (some ⟨V.b, 0, none⟩), .int .i64 now, reqV mir hs] w (RAskPost w B V (askS st now mir hs) (.int .i64 ((st.n : Int) + 1))) := by
  have hst : askS st now mir hs = { st with n := st.n + 1 } := by
    unfold askS
    by_cases h0 : mir < 0
    · rw [if_pos h0]
    · rw [if_neg h0]
      have : st.scripts[mir.toNat]? = none := List.getElem?_eq_none (by omega)
      rw [this]
  obtain ⟨sm, cm, hvm, hncm, _, hsm, hom⟩ := Src.of_own h.scr
  obtain ⟨c0, c1, c2, c3, c4, c5, cf⟩ := obj_cells h.obj
  obtain ⟨n, hnn⟩ : ∃ n, n = st.n := ⟨_, rfl⟩
  obtain ⟨ns, hns⟩ : ∃ ns, ns = st.scripts.length := ⟨_, rfl⟩
  rw [← hnn] at c4 hn ⊢
  rw [← hns] at hsm hfar hvm
  have hlt := h.lt
  have HN := Lib.hid h
  have HST := Lib.hid hst
  have HNN := Lib.hid hnn
  have HNS := Lib.hid hns
  have HVM := Lib.hid hvm
  have HSM := Lib.hid hsm
  have hw : IntKind.i64.wrap ((n : Int) + 1) = (n : Int) + 1 := IntWalk.i64_in _ (by omega)
  obtain ⟨rl, hrl⟩ : ∃ rl, rl = (reqL mir hs).toArray := ⟨_, rfl⟩
  have hrv : reqV mir hs = .agg rl := by rw [hrl]; rfl
  rw [hrv]
  have HRL := Lib.hid hrl
  have d4 := fun o => (Kp.alloc (fun _ => False) w o).cell c4 (fun h => h)
  have d4f : ∀ o, (w.alloc o).frozen? ⟨V.b, 4, none⟩ = false := fun o => frozen_kp (Kp.alloc (fun _ => False) w o) HN.out.obj (fun h => h)
  have df : w.frozen? ⟨V.b, 4, none⟩ = false := cf 4
  clear c0 c1 c2 c3 c5 cf hvm h hst hnn hns hsm hrv hrl
  go_enter Try.func22, Try.ntmps22
  go_wp2_with fail
  obtain ⟨w1, hw1⟩ : ∃ w1, w1 = (w.setCell ⟨V.b, 4, none⟩ (.int .i64 ((n : Int) + 1))).alloc (.cells rl 46) := ⟨_, rfl⟩
  have ho1 : w1.heap[V.b]? = some (.cells #[V.vp, V.vo, V.vs, V.va, .int .i64 ((n + 1 : Nat) : Int), V.vr] 63 (0, 0)) := by
    rw [hw1]
    refine (Kp.alloc (fun _ => False) _ _).heap ?_ (fun h => h)
    rw [heap_setCell_same _ V.b 4 _ 63 _ HN.out.obj]
    rfl
  have hb1 : w1.heap[w.heap.size]? = some (.cells rl 46 (0, 0)) := by
    rw [hw1]
    have := heap_alloc_new (w.setCell ⟨V.b, 4, none⟩ (.int .i64 ((n : Int) + 1))) (.cells rl 46)
    rwa [show (w.setCell ⟨V.b, 4, none⟩ (.int .i64 ((n : Int) + 1))).heap.size = w.heap.size by simp [World.setCell]] at this
  have k1 : Kp (fun k => k = V.b) w w1 := by rw [hw1]; exact (Kp.setCell (F := fun k => k = V.b) w (a := ⟨V.b, 4, none⟩) _ rfl).trans (Kp.alloc (fun k => k = V.b) _ _) fun _ h => .inl h
  have e2 : w1.cell? ⟨V.b, 2, none⟩ = some (.slice sm ns cm) := by rw [← HVM.out]; exact cell_of_row _ _ 2 _ _ _ ho1
  have e4 : w1.cell? ⟨V.b, 4, none⟩ = some (.int .i64 ((n : Int) + 1)) := cell_of_row _ _ 4 _ _ _ ho1
  have b0 : w1.cell? ⟨w.heap.size, 0, none⟩ = some (.int .i64 mir) := by rw [cell_of_row _ _ 0 _ _ _ hb1, HRL.out]; rfl
  rw [← hw1]
  have O1 := Lib.hid ho1
  have B1 := Lib.hid hb1
  have K1 := Lib.hid k1
  have E2 := Lib.hid e2
  have E4 := Lib.hid e4
  have B0 := Lib.hid b0
  clear hw1 ho1 hb1 k1 e2 e4 b0 d4 d4f df c4
  by_cases h0 : mir < 0
  · clear hfar
    refine wp_region_held_drew (S := Kp (fun _ => False) w1) (by kernel_rfl) (Kp.drew _ _) (fun hHeld => ?_)
    refine wpAnyH_take (i := 0) (v := ?v1) rfl (by kernel_rfl) (by kernel_rfl) (by kernel_rfl) (fun _ _ _ h => h) (Or.inl ⟨by rfl, ?y1⟩) (by assumption) ?r1
    case y1 =>
      intro wq hSw
      clear hSw
      go_simp
      with_reducible rfl
    simp only [Act.put, List.getElem_toArray, List.getElem_cons_succ, List.getElem_cons_zero, List.setIfInBounds_toArray, List.set_cons_zero, List.set_cons_succ]
    refine wpAnyH_take (i := 1) (v := ?v2) rfl (by kernel_rfl) (by kernel_rfl) (by kernel_rfl) (fun _ _ _ h => h) (Or.inl ⟨by rfl, ?y2⟩) (by assumption) ?r2
    case y2 =>
      intro wq hSw
      have q0 := hSw.cell B0.out (fun h => h)
      clear hSw
      go_simp
      with_reducible rfl
    simp only [Act.put, List.getElem_toArray, List.getElem_cons_succ, List.getElem_cons_zero, List.setIfInBounds_toArray, List.set_cons_zero, List.set_cons_succ]
    refine wpAnyH_take (i := 2) (v := ?v3) rfl (by kernel_rfl) (by kernel_rfl) (by kernel_rfl) (fun _ _ _ h => h) (Or.inl ⟨by rfl, ?y3⟩) (by assumption) ?r3
    case y3 =>
      intro wq hSw
      clear hSw
      go_simp
      with_reducible rfl
    simp only [Act.put, List.getElem_toArray, List.getElem_cons_succ, List.getElem_cons_zero, List.setIfInBounds_toArray, List.set_cons_zero, List.set_cons_succ]
    refine wpAnyH_take (i := 3) (v := ?v4) rfl (by kernel_rfl) (by kernel_rfl) (by kernel_rfl) (fun _ _ _ h => h) (Or.inl ⟨by rfl, ?y4⟩) (by assumption) ?r4
    case y4 =>
      intro wq hSw
      clear hSw
      go_simp
      with_reducible rfl
    simp only [Act.put, List.getElem_toArray, List.getElem_cons_succ, List.getElem_cons_zero, List.setIfInBounds_toArray, List.set_cons_zero, List.set_cons_succ]
    refine wpAnyH_take (i := 4) (v := _) rfl (by kernel_rfl) (by kernel_rfl) (by kernel_rfl) (fun _ _ _ h => h) (Or.inr ⟨by rfl, rfl⟩) (by assumption) ?_
    simp only [Act.put, List.getElem_toArray, List.getElem_cons_succ, List.getElem_cons_zero, List.setIfInBounds_toArray, List.set_cons_zero, List.set_cons_succ]
    refine wpAnyH_take (i := 5) (v := _) rfl (by kernel_rfl) (by kernel_rfl) (by kernel_rfl) (fun _ _ _ h => h) (Or.inr ⟨by rfl, rfl⟩) (by assumption) ?_
    simp only [Act.put, List.getElem_toArray, List.getElem_cons_succ, List.getElem_cons_zero, List.setIfInBounds_toArray, List.set_cons_zero, List.set_cons_succ]
    refine wpAnyH_take (i := 6) (v := _) rfl (by kernel_rfl) (by kernel_rfl) (by kernel_rfl) (fun _ _ _ h => h) (Or.inr ⟨by rfl, rfl⟩) (by assumption) ?_
    simp only [Act.put, List.getElem_toArray, List.getElem_cons_succ, List.getElem_cons_zero, List.setIfInBounds_toArray, List.set_cons_zero, List.set_cons_succ]
    refine wpAnyH_take (i := 7) (v := _) rfl (by kernel_rfl) (by kernel_rfl) (by kernel_rfl) (fun _ _ _ h => h) (Or.inr ⟨by rfl, rfl⟩) (by assumption) ?_
    simp only [Act.put, List.getElem_toArray, List.getElem_cons_succ, List.getElem_cons_zero, List.setIfInBounds_toArray, List.set_cons_zero, List.set_cons_succ]
    refine wpAnyH_take (i := 8) (v := _) rfl (by kernel_rfl) (by kernel_rfl) (by kernel_rfl) (fun _ _ _ h => h) (Or.inr ⟨by rfl, rfl⟩) (by assumption) ?_
    simp only [Act.put, List.getElem_toArray, List.getElem_cons_succ, List.getElem_cons_zero, List.setIfInBounds_toArray, List.set_cons_zero, List.set_cons_succ]
    refine wpAnyH_take (i := 9) (v := _) rfl (by kernel_rfl) (by kernel_rfl) (by kernel_rfl) (fun _ _ _ h => h) (Or.inr ⟨by rfl, rfl⟩) (by assumption) ?_
    simp only [Act.put, List.getElem_toArray, List.getElem_cons_succ, List.getElem_cons_zero, List.setIfInBounds_toArray, List.set_cons_zero, List.set_cons_succ]
    refine wpAnyH_take (i := 10) (v := _) rfl (by kernel_rfl) (by kernel_rfl) (by kernel_rfl) (fun _ _ _ h => h) (Or.inr ⟨by rfl, rfl⟩) (by assumption) ?_
    simp only [Act.put, List.getElem_toArray, List.getElem_cons_succ, List.getElem_cons_zero, List.setIfInBounds_toArray, List.set_cons_zero, List.set_cons_succ]
    refine wpAnyH_take (i := 11) (v := _) rfl (by kernel_rfl) (by kernel_rfl) (by kernel_rfl) (fun _ _ _ h => h) (Or.inr ⟨by rfl, rfl⟩) (by assumption) ?_
    simp only [Act.put, List.getElem_toArray, List.getElem_cons_succ, List.getElem_cons_zero, List.setIfInBounds_toArray, List.set_cons_zero, List.set_cons_succ]
    refine wpAnyH_take (i := 12) (v := ?v5) rfl (by kernel_rfl) (by kernel_rfl) (by kernel_rfl) (fun _ _ _ h => h) (Or.inl ⟨by rfl, ?y5⟩) (by assumption) ?r5
    case y5 =>
      intro wq hSw
      clear hSw
      go_simp
      with_reducible rfl
    simp only [Act.put, List.getElem_toArray, List.getElem_cons_succ, List.getElem_cons_zero, List.setIfInBounds_toArray, List.set_cons_zero, List.set_cons_succ]
    refine wpAnyH_done (by kernel_rfl) ?_ _
    have q4 := hHeld.cell E4.out (fun h => h)
    have kf := hHeld
    have KF := Lib.hid kf
    clear hHeld kf
    go_wp2_with fail
    go_ret
    have kV : Kp (fun k => k = V.b) w _ := K1.out.trans KF.out fun _ (h : False) => h.elim
    refine ⟨rfl, V.vr, ?_, kV.mono fun k hk => .inl (.inl hk), fun k hk => .inl hk⟩
    rw [HST.out]
    refine HN.out.build (kV.mono fun k hk => .inl (.inl hk)) V.vr rfl rfl rfl (by rw [← HNN.out]; exact KF.out.heap O1.out (fun h => h)) ?_ ?_ (by have := askS_ok HN.out.ok now mir hs (by rw [← HNN.out]; exact hn); rwa [HST.out] at this)
    · exact kV.own HN.out.ask fun k hk e => HN.out.b_ask (by rw [hk, e])
    · exact kV.own HN.out.rep fun k hk e => HN.out.b_rep (by rw [hk, e])
  · have h1 : (ns : Int) ≤ mir := by omega
    clear hfar
    refine wp_region_held_drew (S := Kp (fun _ => False) w1) (by kernel_rfl) (Kp.drew _ _) (fun hHeld => ?_)
    refine wpAnyH_take (i := 0) (v := ?v6) rfl (by kernel_rfl) (by kernel_rfl) (by kernel_rfl) (fun _ _ _ h => h) (Or.inl ⟨by rfl, ?y6⟩) (by assumption) ?r6
    case y6 =>
      intro wq hSw
      clear hSw
      go_simp
      with_reducible rfl
    simp only [Act.put, List.getElem_toArray, List.getElem_cons_succ, List.getElem_cons_zero, List.setIfInBounds_toArray, List.set_cons_zero, List.set_cons_succ]
    refine wpAnyH_take (i := 1) (v := ?v7) rfl (by kernel_rfl) (by kernel_rfl) (by kernel_rfl) (fun _ _ _ h => h) (Or.inl ⟨by rfl, ?y7⟩) (by assumption) ?r7
    case y7 =>
      intro wq hSw
      have q0 := hSw.cell B0.out (fun h => h)
      clear hSw
      go_simp
      with_reducible rfl
    simp only [Act.put, List.getElem_toArray, List.getElem_cons_succ, List.getElem_cons_zero, List.setIfInBounds_toArray, List.set_cons_zero, List.set_cons_succ]
    refine wpAnyH_take (i := 2) (v := ?v8) rfl (by kernel_rfl) (by kernel_rfl) (by kernel_rfl) (fun _ _ _ h => h) (Or.inl ⟨by rfl, ?y8⟩) (by assumption) ?r8
    case y8 =>
      intro wq hSw
      clear hSw
      go_simp
      with_reducible rfl
    simp only [Act.put, List.getElem_toArray, List.getElem_cons_succ, List.getElem_cons_zero, List.setIfInBounds_toArray, List.set_cons_zero, List.set_cons_succ]
    refine wpAnyH_take (i := 3) (v := ?v9) rfl (by kernel_rfl) (by kernel_rfl) (by kernel_rfl) (fun _ _ _ h => h) (Or.inl ⟨by rfl, ?y9⟩) (by assumption) ?r9
    case y9 =>
      intro wq hSw
      clear hSw
      go_simp
      with_reducible rfl
    simp only [Act.put, List.getElem_toArray, List.getElem_cons_succ, List.getElem_cons_zero, List.setIfInBounds_toArray, List.set_cons_zero, List.set_cons_succ]
    refine wpAnyH_take (i := 4) (v := ?v10) rfl (by kernel_rfl) (by kernel_rfl) (by kernel_rfl) (fun _ _ _ h => h) (Or.inl ⟨by rfl, ?y10⟩) (by assumption) ?r10
    case y10 =>
      intro wq hSw
      clear hSw
      go_simp
      with_reducible rfl
    simp only [Act.put, List.getElem_toArray, List.getElem_cons_succ, List.getElem_cons_zero, List.setIfInBounds_toArray, List.set_cons_zero, List.set_cons_succ]
    refine wpAnyH_take (i := 5) (v := ?v11) rfl (by kernel_rfl) (by kernel_rfl) (by kernel_rfl) (fun _ _ _ h => h) (Or.inl ⟨by rfl, ?y11⟩) (by assumption) ?r11
    case y11 =>
      intro wq hSw
      have q0 := hSw.cell B0.out (fun h => h)
      clear hSw
      go_simp
      with_reducible rfl
    simp only [Act.put, List.getElem_toArray, List.getElem_cons_succ, List.getElem_cons_zero, List.setIfInBounds_toArray, List.set_cons_zero, List.set_cons_succ]
    refine wpAnyH_take (i := 6) (v := ?v12) rfl (by kernel_rfl) (by kernel_rfl) (by kernel_rfl) (fun _ _ _ h => h) (Or.inl ⟨by rfl, ?y12⟩) (by assumption) ?r12
    case y12 =>
      intro wq hSw
      clear hSw
      go_simp
      with_reducible rfl
    simp only [Act.put, List.getElem_toArray, List.getElem_cons_succ, List.getElem_cons_zero, List.setIfInBounds_toArray, List.set_cons_zero, List.set_cons_succ]
    refine wpAnyH_take (i := 7) (v := ?v13) rfl (by kernel_rfl) (by kernel_rfl) (by kernel_rfl) (fun _ _ _ h => h) (Or.inl ⟨by rfl, ?y13⟩) (by assumption) ?r13
    case y13 =>
      intro wq hSw
      clear hSw
      go_simp
      with_reducible rfl
    simp only [Act.put, List.getElem_toArray, List.getElem_cons_succ, List.getElem_cons_zero, List.setIfInBounds_toArray, List.set_cons_zero, List.set_cons_succ]
    refine wpAnyH_take (i := 8) (v := ?v14) rfl (by kernel_rfl) (by kernel_rfl) (by kernel_rfl) (fun _ _ _ h => h) (Or.inl ⟨by rfl, ?y14⟩) (by assumption) ?r14
    case y14 =>
      intro wq hSw
      clear hSw
      go_simp
      with_reducible rfl
    simp only [Act.put, List.getElem_toArray, List.getElem_cons_succ, List.getElem_cons_zero, List.setIfInBounds_toArray, List.set_cons_zero, List.set_cons_succ]
    refine wpAnyH_take (i := 9) (v := ?v15) rfl (by kernel_rfl) (by kernel_rfl) (by kernel_rfl) (fun _ _ _ h => h) (Or.inl ⟨by rfl, ?y15⟩) (by assumption) ?r15
    case y15 =>
      intro wq hSw
      have q0 := hSw.cell E2.out (fun h => h)
      clear hSw
      go_simp
      with_reducible rfl
    simp only [Act.put, List.getElem_toArray, List.getElem_cons_succ, List.getElem_cons_zero, List.setIfInBounds_toArray, List.set_cons_zero, List.set_cons_succ]
    refine wpAnyH_take (i := 10) (v := ?v16) rfl (by kernel_rfl) (by kernel_rfl) (by kernel_rfl) (fun _ _ _ h => h) (Or.inl ⟨by rfl, ?y16⟩) (by assumption) ?r16
    case y16 =>
      intro wq hSw
      clear hSw
      go_simp
      with_reducible rfl
    simp only [Act.put, List.getElem_toArray, List.getElem_cons_succ, List.getElem_cons_zero, List.setIfInBounds_toArray, List.set_cons_zero, List.set_cons_succ]
    refine wpAnyH_take (i := 11) (v := ?v17) rfl (by kernel_rfl) (by kernel_rfl) (by kernel_rfl) (fun _ _ _ h => h) (Or.inl ⟨by rfl, ?y17⟩) (by assumption) ?r17
    case y17 =>
      intro wq hSw
      clear hSw
      go_simp
      with_reducible rfl
    simp only [Act.put, List.getElem_toArray, List.getElem_cons_succ, List.getElem_cons_zero, List.setIfInBounds_toArray, List.set_cons_zero, List.set_cons_succ]
    refine wpAnyH_take (i := 12) (v := ?v18) rfl (by kernel_rfl) (by kernel_rfl) (by kernel_rfl) (fun _ _ _ h => h) (Or.inl ⟨by rfl, ?y18⟩) (by assumption) ?r18
    case y18 =>
      intro wq hSw
      clear hSw
      go_simp
      with_reducible rfl
    simp only [Act.put, List.getElem_toArray, List.getElem_cons_succ, List.getElem_cons_zero, List.setIfInBounds_toArray, List.set_cons_zero, List.set_cons_succ]
    refine wpAnyH_done (by kernel_rfl) ?_ _
    have q4 := hHeld.cell E4.out (fun h => h)
    have kf := hHeld
    have KF := Lib.hid kf
    clear hHeld kf
    go_wp2_with fail
    go_ret
    have kV : Kp (fun k => k = V.b) w _ := K1.out.trans KF.out fun _ (h : False) => h.elim
    refine ⟨rfl, V.vr, ?_, kV.mono fun k hk => .inl (.inl hk), fun k hk => .inl hk⟩
    rw [HST.out]
    refine HN.out.build (kV.mono fun k hk => .inl (.inl hk)) V.vr rfl rfl rfl (by rw [← HNN.out]; exact KF.out.heap O1.out (fun h => h)) ?_ ?_ (by have := askS_ok HN.out.ok now mir hs (by rw [← HNN.out]; exact hn); rwa [HST.out] at this)
    · exact kV.own HN.out.ask fun k hk e => HN.out.b_ask (by rw [hk, e])
    · exact kV.own HN.out.rep fun k hk e => HN.out.b_rep (by rw [hk, e])

def RBh (w1 : World) (R8 : Nat) (x : Bh) (wx : World) : Prop :=
  wx.heap[R8]? = some (.cells #[.int .i64 x.k, .int .i64 x.d, .int .i64 x.n] 42 (0, 0)) ∧ Kp (fun _ => False) w1 wx

def RRepRel (w5 : World) (B : Nat) (V : RV) (st1 : NS) (rs : List Rp) (i : Value) (wr : World) : Prop :=
  ∃ (k : Nat) (vr' : Value), i = .int .i64 (k : Int) ∧ k ≤ rs.length ∧ RefP wr B { V with vr := vr' } { st1 with replies := st1.replies ++ rs.take k } ∧ Kp V.foot w5 wr ∧ ∀ q, vr'.ownBlock = some q → V.vr.ownBlock = some q ∨ w5.heap.size ≤ q

set_option maxRecDepth 100000 in
set_option maxHeartbeats 8000000 in
theorem rask_near {w : World} {B : Nat} {V : RV} {st : NS} (h : RefP w B V st) (now : Int) (j : Nat) (hs : List UInt8) (hh : hs.length = 32) (hn : st.n < 100000) (hj2 : j < st.scripts.length) (hnow : -1000000 ≤ now ∧ now ≤ 1000000) :
    Calls Try.prog 22 #[.pointer (some ⟨V.b, 0, none⟩), .int .i64 now, reqV (j : Int) hs] w (RAskPost w B V (askS st now (j : Int) hs) (.int .i64 ((st.n : Int) + 1))) := by
  obtain ⟨m, hm⟩ : ∃ m, V.sv[j]? = some m := ⟨_, List.getElem?_eq_getElem (by rw [h.sl]; exact hj2)⟩
  obtain ⟨l, hl⟩ : ∃ l, st.scripts[j]? = some l := ⟨_, List.getElem?_eq_getElem hj2⟩
  obtain ⟨a, ha⟩ : ∃ a, st.asked[j]? = some a := ⟨_, List.getElem?_eq_getElem (by rw [h.ok.la]; exact hj2)⟩
  obtain ⟨x, hx⟩ : ∃ x, behS l a = x := ⟨_, rfl⟩
  obtain ⟨st1, hst1⟩ : ∃ st1 : NS, st1 = { st with n := st.n + 1, asked := st.asked.set j (a + 1) } := ⟨_, rfl⟩
  obtain ⟨L, hL⟩ : ∃ L, L = bytesS st.packets st.old x hs := ⟨_, rfl⟩
  have hst : askS st now (j : Int) hs = { st1 with replies := st.replies ++ L.map fun b => ⟨(st.n : Int) + 1, (j : Int), now + max x.d 0, b⟩ } := by
    unfold askS
    rw [if_neg (by omega), Int.toNat_natCast, hl]
    have hg : st.asked.getD j 0 = a := by simp [List.getD, ha]
    simp only [hg, hx, hst1, hL]
  have hM := h.each j m l hm hl
  have ha1 : a ≤ 100000 := by have := h.ok.ha a (List.mem_of_getElem? ha); omega
  obtain ⟨sl, cl, hvl, hncl, hcl, hsl, hol⟩ := Src.of_own hM
  obtain ⟨sa, ca, hva, hnca, hca, hsa, hoa⟩ := Src.of_own h.ask
  obtain ⟨nl, hnl⟩ : ∃ nl, nl = l.length := ⟨_, rfl⟩
  have hla := h.ok.la
  have hscr : ∀ k, m.ownBlock = some k → ¬ V.foot k := h.own_foot hM (by decide) (by decide) (by decide)
  have HM := Lib.hid hM
  have HMS := Lib.hid hm
  have HL1 := Lib.hid hl
  have HA1 := Lib.hid ha
  have HX := Lib.hid hx
  have HST1 := Lib.hid hst1
  have HLL := Lib.hid hL
  have HSL := Lib.hid hsl
  have HVL := Lib.hid hvl
  have HSA := Lib.hid hsa
  have HVA := Lib.hid hva
  have HNL0 := Lib.hid hnl
  have HOL := Lib.hid hol
  have HOA := Lib.hid hoa
  have HLA := Lib.hid hla
  clear hM hm hl ha hx hst1 hL hsl hvl hsa hva hnl hol hoa hla hncl hnca hcl hca
  obtain ⟨sm, cm, hvm, hncm, _, hsm, hom⟩ := Src.of_own h.scr
  obtain ⟨c0, c1, c2, c3, c4, c5, cf⟩ := obj_cells h.obj
  obtain ⟨n, hnn⟩ : ∃ n, n = st.n := ⟨_, rfl⟩
  obtain ⟨ns, hns⟩ : ∃ ns, ns = st.scripts.length := ⟨_, rfl⟩
  rw [← hnn] at c4 hn ⊢
  rw [← hns] at hsm hj2 hvm
  have hlt := h.lt
  have HN := Lib.hid h
  have HST := Lib.hid hst
  have HNN := Lib.hid hnn
  have HNS := Lib.hid hns
  have HVM := Lib.hid hvm
  have HSM := Lib.hid hsm
  have hw : IntKind.i64.wrap ((n : Int) + 1) = (n : Int) + 1 := IntWalk.i64_in _ (by omega)
  obtain ⟨rl, hrl⟩ : ∃ rl, rl = (reqL (j : Int) hs).toArray := ⟨_, rfl⟩
  have hrv : reqV (j : Int) hs = .agg rl := by rw [hrl]; rfl
  rw [hrv]
  have HRL := Lib.hid hrl
  have d4 := fun o => (Kp.alloc (fun _ => False) w o).cell c4 (fun h => h)
  have d4f : ∀ o, (w.alloc o).frozen? ⟨V.b, 4, none⟩ = false := fun o => frozen_kp (Kp.alloc (fun _ => False) w o) HN.out.obj (fun h => h)
  have df : w.frozen? ⟨V.b, 4, none⟩ = false := cf 4
  clear c0 c1 c2 c3 c5 cf hvm h hst hnn hns hsm hrv hrl
  go_enter Try.func22, Try.ntmps22
  go_wp2_with fail
  obtain ⟨w1, hw1⟩ : ∃ w1, w1 = (w.setCell ⟨V.b, 4, none⟩ (.int .i64 ((n : Int) + 1))).alloc (.cells rl 46) := ⟨_, rfl⟩
  have ho1 : w1.heap[V.b]? = some (.cells #[V.vp, V.vo, V.vs, V.va, .int .i64 ((n + 1 : Nat) : Int), V.vr] 63 (0, 0)) := by
    rw [hw1]
    refine (Kp.alloc (fun _ => False) _ _).heap ?_ (fun h => h)
    rw [heap_setCell_same _ V.b 4 _ 63 _ HN.out.obj]
    rfl
  have hb1 : w1.heap[w.heap.size]? = some (.cells rl 46 (0, 0)) := by
    rw [hw1]
    have := heap_alloc_new (w.setCell ⟨V.b, 4, none⟩ (.int .i64 ((n : Int) + 1))) (.cells rl 46)
    rwa [show (w.setCell ⟨V.b, 4, none⟩ (.int .i64 ((n : Int) + 1))).heap.size = w.heap.size by simp [World.setCell]] at this
  have k1 : Kp (fun k => k = V.b) w w1 := by rw [hw1]; exact (Kp.setCell (F := fun k => k = V.b) w (a := ⟨V.b, 4, none⟩) _ rfl).trans (Kp.alloc (fun k => k = V.b) _ _) fun _ h => .inl h
  have e2 : w1.cell? ⟨V.b, 2, none⟩ = some (.slice sm ns cm) := by rw [← HVM.out]; exact cell_of_row _ _ 2 _ _ _ ho1
  have e4 : w1.cell? ⟨V.b, 4, none⟩ = some (.int .i64 ((n : Int) + 1)) := cell_of_row _ _ 4 _ _ _ ho1
  have b0 : w1.cell? ⟨w.heap.size, 0, none⟩ = some (.int .i64 (j : Int)) := by rw [cell_of_row _ _ 0 _ _ _ hb1, HRL.out]; rfl
  rw [← hw1]
  have O1 := Lib.hid ho1
  have B1 := Lib.hid hb1
  have K1 := Lib.hid k1
  have E2 := Lib.hid e2
  have E4 := Lib.hid e4
  have B0 := Lib.hid b0
  clear hw1 ho1 hb1 k1 e2 e4 b0 d4 d4f df c4
  have j0 : (0 : Int) ≤ (j : Int) := by omega
  have j1 : (j : Int) < (ns : Int) := by omega
  have h0 : ¬ (j : Int) < 0 := by omega
  have h1 : ¬ (ns : Int) ≤ (j : Int) := by omega
  obtain ⟨gm, om, esm, hrm⟩ := HSM.out.2 (by omega : 0 < ns)
  have hgm := hom gm ⟨om, esm⟩
  have hgf : ¬ V.foot gm := HN.out.own_foot HN.out.scr (by decide) (by decide) (by decide) gm hgm
  subst esm
  have mc1 : w1.cell? ⟨gm, om + j, none⟩ = some (.slice sl nl cl) := by
    rw [HNL0.out, ← HVL.out]
    refine K1.out.cell ?_ (fun e => hgf (.inl e))
    exact hrm j _ HMS.out
  have MC1 := Lib.hid mc1
  -- the row of counts
  obtain ⟨ga, oa, esa, hra⟩ := HSA.out.2 (by rw [HLA.out, ← HNS.out]; omega)
  have hga := HOA.out ga ⟨oa, esa⟩
  have oa0 : oa = 0 := by
    rcases HN.out.ask.2 with ⟨e, _⟩ | ⟨g', c', cur, e, _⟩
    · rw [e] at hga; cases hga
    · have := HVA.out; rw [e, esa] at this; cases this; rfl
  subst oa0
  subst esa
  have hbga : V.b ≠ ga := fun e => HN.out.b_ask (by rw [e]; exact hga)
  have ac1 : w1.cell? ⟨ga, j, none⟩ = some (.int .i64 (a : Int)) := by
    refine K1.out.cell ?_ (fun e => hbga e.symm)
    have := hra j (.int .i64 (a : Int)) (by simp [askV, HA1.out])
    rwa [Nat.zero_add] at this
  have hva1 : w1.cell? ⟨V.b, 3, none⟩ = some (.slice (some ⟨ga, 0, none⟩) ns ca) := by
    rw [HNS.out, ← HLA.out, ← HVA.out]; exact cell_of_row _ _ 3 _ _ _ O1.out
  have AC1 := Lib.hid ac1
  have E3 := Lib.hid hva1
  have HGA := Lib.hid hga
  have HBGA := Lib.hid hbga
  have hgalt : ga < w.heap.size := (ownsRow_block HN.out.ask hga).2.1
  have hw1 : w.heap.size < w1.heap.size := (Array.getElem?_eq_some_iff.1 B1.out).1
  clear hrm mc1 hom hra ac1 hva1 hga hbga hgm hgf
  refine wp_region_held_drew (S := Kp (fun _ => False) w1) (by kernel_rfl) (Kp.drew _ _) (fun hHeld => ?_)
  refine wpAnyH_take (i := 0) (v := ?v19) rfl (by kernel_rfl) (by kernel_rfl) (by kernel_rfl) (fun _ _ _ h => h) (Or.inl ⟨by rfl, ?y19⟩) (by assumption) ?r19
  case y19 =>
    intro wq hSw
    clear hSw
    go_simp
    with_reducible rfl
  simp only [Act.put, List.getElem_toArray, List.getElem_cons_succ, List.getElem_cons_zero, List.setIfInBounds_toArray, List.set_cons_zero, List.set_cons_succ]
  refine wpAnyH_take (i := 1) (v := ?v20) rfl (by kernel_rfl) (by kernel_rfl) (by kernel_rfl) (fun _ _ _ h => h) (Or.inl ⟨by rfl, ?y20⟩) (by assumption) ?r20
  case y20 =>
    intro wq hSw
    have q0 := hSw.cell B0.out (fun h => h)
    clear hSw
    go_simp
    with_reducible rfl
  simp only [Act.put, List.getElem_toArray, List.getElem_cons_succ, List.getElem_cons_zero, List.setIfInBounds_toArray, List.set_cons_zero, List.set_cons_succ]
  refine wpAnyH_take (i := 2) (v := ?v21) rfl (by kernel_rfl) (by kernel_rfl) (by kernel_rfl) (fun _ _ _ h => h) (Or.inl ⟨by rfl, ?y21⟩) (by assumption) ?r21
  case y21 =>
    intro wq hSw
    clear hSw
    go_simp
    with_reducible rfl
  simp only [Act.put, List.getElem_toArray, List.getElem_cons_succ, List.getElem_cons_zero, List.setIfInBounds_toArray, List.set_cons_zero, List.set_cons_succ]
  refine wpAnyH_take (i := 3) (v := ?v22) rfl (by kernel_rfl) (by kernel_rfl) (by kernel_rfl) (fun _ _ _ h => h) (Or.inl ⟨by rfl, ?y22⟩) (by assumption) ?r22
  case y22 =>
    intro wq hSw
    clear hSw
    go_simp
    with_reducible rfl
  simp only [Act.put, List.getElem_toArray, List.getElem_cons_succ, List.getElem_cons_zero, List.setIfInBounds_toArray, List.set_cons_zero, List.set_cons_succ]
  refine wpAnyH_take (i := 4) (v := ?v23) rfl (by kernel_rfl) (by kernel_rfl) (by kernel_rfl) (fun _ _ _ h => h) (Or.inl ⟨by rfl, ?y23⟩) (by assumption) ?r23
  case y23 =>
    intro wq hSw
    clear hSw
    go_simp
    with_reducible rfl
  simp only [Act.put, List.getElem_toArray, List.getElem_cons_succ, List.getElem_cons_zero, List.setIfInBounds_toArray, List.set_cons_zero, List.set_cons_succ]
  refine wpAnyH_take (i := 5) (v := ?v24) rfl (by kernel_rfl) (by kernel_rfl) (by kernel_rfl) (fun _ _ _ h => h) (Or.inl ⟨by rfl, ?y24⟩) (by assumption) ?r24
  case y24 =>
    intro wq hSw
    have q0 := hSw.cell B0.out (fun h => h)
    clear hSw
    go_simp
    with_reducible rfl
  simp only [Act.put, List.getElem_toArray, List.getElem_cons_succ, List.getElem_cons_zero, List.setIfInBounds_toArray, List.set_cons_zero, List.set_cons_succ]
  refine wpAnyH_take (i := 6) (v := ?v25) rfl (by kernel_rfl) (by kernel_rfl) (by kernel_rfl) (fun _ _ _ h => h) (Or.inl ⟨by rfl, ?y25⟩) (by assumption) ?r25
  case y25 =>
    intro wq hSw
    clear hSw
    go_simp
    with_reducible rfl
  simp only [Act.put, List.getElem_toArray, List.getElem_cons_succ, List.getElem_cons_zero, List.setIfInBounds_toArray, List.set_cons_zero, List.set_cons_succ]
  refine wpAnyH_take (i := 7) (v := ?v26) rfl (by kernel_rfl) (by kernel_rfl) (by kernel_rfl) (fun _ _ _ h => h) (Or.inl ⟨by rfl, ?y26⟩) (by assumption) ?r26
  case y26 =>
    intro wq hSw
    clear hSw
    go_simp
    with_reducible rfl
  simp only [Act.put, List.getElem_toArray, List.getElem_cons_succ, List.getElem_cons_zero, List.setIfInBounds_toArray, List.set_cons_zero, List.set_cons_succ]
  refine wpAnyH_take (i := 8) (v := ?v27) rfl (by kernel_rfl) (by kernel_rfl) (by kernel_rfl) (fun _ _ _ h => h) (Or.inl ⟨by rfl, ?y27⟩) (by assumption) ?r27
  case y27 =>
    intro wq hSw
    clear hSw
    go_simp
    with_reducible rfl
  simp only [Act.put, List.getElem_toArray, List.getElem_cons_succ, List.getElem_cons_zero, List.setIfInBounds_toArray, List.set_cons_zero, List.set_cons_succ]
  refine wpAnyH_take (i := 9) (v := ?v28) rfl (by kernel_rfl) (by kernel_rfl) (by kernel_rfl) (fun _ _ _ h => h) (Or.inl ⟨by rfl, ?y28⟩) (by assumption) ?r28
  case y28 =>
    intro wq hSw
    have q0 := hSw.cell E2.out (fun h => h)
    clear hSw
    go_simp
    with_reducible rfl
  simp only [Act.put, List.getElem_toArray, List.getElem_cons_succ, List.getElem_cons_zero, List.setIfInBounds_toArray, List.set_cons_zero, List.set_cons_succ]
  refine wpAnyH_take (i := 10) (v := ?v29) rfl (by kernel_rfl) (by kernel_rfl) (by kernel_rfl) (fun _ _ _ h => h) (Or.inl ⟨by rfl, ?y29⟩) (by assumption) ?r29
  case y29 =>
    intro wq hSw
    clear hSw
    go_simp
    with_reducible rfl
  simp only [Act.put, List.getElem_toArray, List.getElem_cons_succ, List.getElem_cons_zero, List.setIfInBounds_toArray, List.set_cons_zero, List.set_cons_succ]
  refine wpAnyH_take (i := 11) (v := ?v30) rfl (by kernel_rfl) (by kernel_rfl) (by kernel_rfl) (fun _ _ _ h => h) (Or.inl ⟨by rfl, ?y30⟩) (by assumption) ?r30
  case y30 =>
    intro wq hSw
    clear hSw
    go_simp
    with_reducible rfl
  simp only [Act.put, List.getElem_toArray, List.getElem_cons_succ, List.getElem_cons_zero, List.setIfInBounds_toArray, List.set_cons_zero, List.set_cons_succ]
  refine wpAnyH_take (i := 12) (v := ?v31) rfl (by kernel_rfl) (by kernel_rfl) (by kernel_rfl) (fun _ _ _ h => h) (Or.inl ⟨by rfl, ?y31⟩) (by assumption) ?r31
  case y31 =>
    intro wq hSw
    clear hSw
    go_simp
    with_reducible rfl
  simp only [Act.put, List.getElem_toArray, List.getElem_cons_succ, List.getElem_cons_zero, List.setIfInBounds_toArray, List.set_cons_zero, List.set_cons_succ]
  refine wpAnyH_done (by kernel_rfl) ?_ _
  have kf := hHeld
  have KF := Lib.hid kf
  clear hHeld kf
  go_wp2_with fail
  refine wp_region_held_drew (S := Kp (fun _ => False) w1) (by kernel_rfl) ((Kp.drew (fun _ => False) w1).trans (Kp.drew (fun _ => False) _) fun _ (h : False) => h.elim) (fun hHeld => ?_)
  refine wpAnyH_take (i := 0) (v := ?v32) rfl (by kernel_rfl) (by kernel_rfl) (by kernel_rfl) (fun _ _ _ h => h) (Or.inl ⟨by rfl, ?y32⟩) (by assumption) ?r32
  case y32 =>
    intro wq hSw
    clear hSw
    go_simp
    with_reducible rfl
  simp only [Act.put, List.getElem_toArray, List.getElem_cons_succ, List.getElem_cons_zero, List.setIfInBounds_toArray, List.set_cons_zero, List.set_cons_succ]
  refine wpAnyH_take (i := 1) (v := ?v33) rfl (by kernel_rfl) (by kernel_rfl) (by kernel_rfl) (fun _ _ _ h => h) (Or.inl ⟨by rfl, ?y33⟩) (by assumption) ?r33
  case y33 =>
    intro wq hSw
    clear hSw
    go_simp
    with_reducible rfl
  simp only [Act.put, List.getElem_toArray, List.getElem_cons_succ, List.getElem_cons_zero, List.setIfInBounds_toArray, List.set_cons_zero, List.set_cons_succ]
  refine wpAnyH_take (i := 2) (v := ?v34) rfl (by kernel_rfl) (by kernel_rfl) (by kernel_rfl) (fun _ _ _ h => h) (Or.inl ⟨by rfl, ?y34⟩) (by assumption) ?r34
  case y34 =>
    intro wq hSw
    clear hSw
    go_simp
    with_reducible rfl
  simp only [Act.put, List.getElem_toArray, List.getElem_cons_succ, List.getElem_cons_zero, List.setIfInBounds_toArray, List.set_cons_zero, List.set_cons_succ]
  refine wpAnyH_take (i := 3) (v := ?v35) rfl (by kernel_rfl) (by kernel_rfl) (by kernel_rfl) (fun _ _ _ h => h) (Or.inl ⟨by rfl, ?y35⟩) (by assumption) ?r35
  case y35 =>
    intro wq hSw
    have q0 := hSw.cell E2.out (fun h => h)
    clear hSw
    go_simp
    with_reducible rfl
  simp only [Act.put, List.getElem_toArray, List.getElem_cons_succ, List.getElem_cons_zero, List.setIfInBounds_toArray, List.set_cons_zero, List.set_cons_succ]
  refine wpAnyH_take (i := 4) (v := ?v36) rfl (by kernel_rfl) (by kernel_rfl) (by kernel_rfl) (fun _ _ _ h => h) (Or.inl ⟨by rfl, ?y36⟩) (by assumption) ?r36
  case y36 =>
    intro wq hSw
    clear hSw
    go_simp
    with_reducible rfl
  simp only [Act.put, List.getElem_toArray, List.getElem_cons_succ, List.getElem_cons_zero, List.setIfInBounds_toArray, List.set_cons_zero, List.set_cons_succ]
  refine wpAnyH_take (i := 5) (v := ?v37) rfl (by kernel_rfl) (by kernel_rfl) (by kernel_rfl) (fun _ _ _ h => h) (Or.inl ⟨by rfl, ?y37⟩) (by assumption) ?r37
  case y37 =>
    intro wq hSw
    have q0 := hSw.cell B0.out (fun h => h)
    clear hSw
    go_simp
    with_reducible rfl
  simp only [Act.put, List.getElem_toArray, List.getElem_cons_succ, List.getElem_cons_zero, List.setIfInBounds_toArray, List.set_cons_zero, List.set_cons_succ]
  refine wpAnyH_take (i := 6) (v := ?v38) rfl (by kernel_rfl) (by kernel_rfl) (by kernel_rfl) (fun _ _ _ h => h) (Or.inl ⟨by rfl, ?y38⟩) (by assumption) ?r38
  case y38 =>
    intro wq hSw
    clear hSw
    go_simp
    with_reducible rfl
  simp only [Act.put, List.getElem_toArray, List.getElem_cons_succ, List.getElem_cons_zero, List.setIfInBounds_toArray, List.set_cons_zero, List.set_cons_succ]
  refine wpAnyH_take (i := 7) (v := ?v39) rfl (by kernel_rfl) (by kernel_rfl) (by kernel_rfl) (fun _ _ _ h => h) (Or.inl ⟨by rfl, ?y39⟩) (by assumption) ?r39
  case y39 =>
    intro wq hSw
    have q0 := hSw.cell MC1.out (fun h => h)
    clear hSw
    go_simp
    with_reducible rfl
  simp only [Act.put, List.getElem_toArray, List.getElem_cons_succ, List.getElem_cons_zero, List.setIfInBounds_toArray, List.set_cons_zero, List.set_cons_succ]
  refine wpAnyH_take (i := 8) (v := ?v40) rfl (by kernel_rfl) (by kernel_rfl) (by kernel_rfl) (fun _ _ _ h => h) (Or.inl ⟨by rfl, ?y40⟩) (by assumption) ?r40
  case y40 =>
    intro wq hSw
    clear hSw
    go_simp
    with_reducible rfl
  simp only [Act.put, List.getElem_toArray, List.getElem_cons_succ, List.getElem_cons_zero, List.setIfInBounds_toArray, List.set_cons_zero, List.set_cons_succ]
  refine wpAnyH_done (by kernel_rfl) ?_ _
  have kf := hHeld
  have K2 := Lib.hid kf
  clear hHeld kf KF
  go_upto_if 46 with (fail)
  obtain ⟨w2, hw2⟩ : ∃ w2, w2 = (w1.alloc (.cells #[.int .i64 1, .int .i64 1, .int .i64 0] 42)).drew.drew := ⟨_, rfl⟩
  have k2 : Kp (fun _ => False) w1 w2 := by rw [hw2]; exact ((Kp.alloc (fun _ => False) w1 _).trans (Kp.drew (fun _ => False) _) fun _ (h : False) => h.elim).trans (Kp.drew (fun _ => False) _) fun _ (h : False) => h.elim
  have h8 : w2.heap[w1.heap.size]? = some (.cells #[.int .i64 1, .int .i64 1, .int .i64 0] 42 (0, 0)) := by rw [hw2]; exact heap_alloc_new w1 _
  rw [← hw2]
  have K12 := Lib.hid k2
  have H8 := Lib.hid h8
  have h8lt : w1.heap.size < w2.heap.size := (Array.getElem?_eq_some_iff.1 h8).1
  obtain ⟨R8, hR8⟩ : ∃ R8, R8 = w1.heap.size := ⟨_, rfl⟩
  rw [← hR8] at H8 h8lt ⊢
  have HR8 := Lib.hid hR8
  clear hw2 k2 h8 K2 hR8
  go_cut [] (fun wx => RBh w1 R8 x wx)
  case first =>
    by_cases hz : nl = 0
    · have hx := HX.out
      have hl0 : l = [] := List.length_eq_zero_iff.1 (by rw [← HNL0.out]; exact hz)
      rw [hl0] at hx
      have hx2 : x = ⟨1, 1, 0⟩ := by rw [← hx]; rfl
      have HX2 := Lib.hid hx2
      have hzz : ((nl : Int) > 0) = False := by simp; omega
      clear hx hl0 hx2
      subst hz
      go_wp2_with fail
      go_meet
      case rel => exact ⟨by rw [HX2.out]; exact H8.out, K12.out⟩
    · have hnl0 : 0 < (nl : Int) := by omega
      obtain ⟨gl, ol, esl, hrl⟩ := HSL.out.2 (by rw [← HNL0.out]; omega)
      subst esl
      obtain ⟨i, hi⟩ : ∃ i, i = a % nl := ⟨_, rfl⟩
      have hin : i < nl := by rw [hi]; exact Nat.mod_lt _ (by omega)
      have hxi : l[i]? = some x := by
        have h1 := HX.out
        unfold behS at h1
        rw [← HNL0.out, ← hi] at h1
        have h2 : l[i]? = some (l[i]'(by rw [← HNL0.out]; exact hin)) := List.getElem?_eq_getElem _
        rw [h2] at h1 ⊢
        rw [← h1]
      have hrem : (a : Int).tmod (nl : Int) = (i : Int) := by rw [Int.tmod_eq_emod_of_nonneg (by omega), hi]; simp
      have hrem2 : (a : Int) % (nl : Int) = (i : Int) := by rw [hi]; simp
      have hgl := HOL.out gl ⟨ol, rfl⟩
      have hgf := hscr gl hgl
      have hgllt : gl < w.heap.size := (ownsRow_block HM.out hgl).2.1
      obtain ⟨x0, x1, x2⟩ := bh_cells (rangeAt_kp (rangeAt_kp hrl K1.out (fun e => hgf (.inl e))) K12.out (fun h => h)) hxi
      have X0 := Lib.hid x0
      have X1 := Lib.hid x1
      have X2 := Lib.hid x2
      have hwd : IntKind.i64.wrap (a : Int) = (a : Int) := IntWalk.i64_in _ (by omega)
      have hne : ((nl : Int) == 0) = false := by rw [beq_eq_false_iff_ne]; omega
      have hn00 : ¬ nl = 0 := by omega
      have i0 : (0 : Int) ≤ (i : Int) := by omega
      have i1 : (i : Int) < (nl : Int) := by omega
      have r3 := K12.out.cell E3.out (fun h => h)
      have F3 := Lib.hid r3
      have rb := K12.out.cell B0.out (fun h => h)
      have FB := Lib.hid rb
      have ra := K12.out.cell AC1.out (fun h => h)
      have FA := Lib.hid ra
      obtain ⟨y0, y1, y2, yf⟩ : w2.cell? ⟨R8, 0, none⟩ = some (.int .i64 1) ∧ w2.cell? ⟨R8, 1, none⟩ = some (.int .i64 1) ∧ w2.cell? ⟨R8, 2, none⟩ = some (.int .i64 0) ∧ ∀ q, w2.frozen? ⟨R8, q, none⟩ = false := ⟨cell_of_row _ _ 0 _ _ _ H8.out, cell_of_row _ _ 1 _ _ _ H8.out, cell_of_row _ _ 2 _ _ _ H8.out, fun q => frozen_of_row _ _ q _ _ H8.out⟩
      have YR := Lib.hid (And.intro y0 (And.intro y1 (And.intro y2 yf)))
      have hr8 := HR8.out
      have nV : ¬ V.b = R8 := by omega
      have nB : ¬ w.heap.size = R8 := by omega
      have nA : ¬ ga = R8 := by omega
      have nL : ¬ gl = R8 := by omega
      clear hrl x0 x1 x2 r3 rb ra hxi hi hgl hgf y0 y1 y2 yf hr8
      go_wp2_with fail
      refine wp_region_held_drew (S := Kp (fun q => q = R8) w2) (by kernel_rfl) ((Kp.drew (fun q => q = R8) _)) (fun hHeld => ?_)
      refine wpAnyH_take (i := 0) (v := ?v41) rfl (by kernel_rfl) (by kernel_rfl) (by kernel_rfl) (fun _ _ _ h => h) (Or.inl ⟨by rfl, ?y41⟩) (by assumption) ?r41
      case y41 =>
        intro wq hSw
        clear hSw
        go_simp
        with_reducible rfl
      simp only [Act.put, List.getElem_toArray, List.getElem_cons_succ, List.getElem_cons_zero, List.setIfInBounds_toArray, List.set_cons_zero, List.set_cons_succ]
      refine wpAnyH_take (i := 1) (v := ?v42) rfl (by kernel_rfl) (by kernel_rfl) (by kernel_rfl) (fun _ _ _ h => h) (Or.inl ⟨by rfl, ?y42⟩) (by assumption) ?r42
      case y42 =>
        intro wq hSw
        clear hSw
        go_simp
        with_reducible rfl
      simp only [Act.put, List.getElem_toArray, List.getElem_cons_succ, List.getElem_cons_zero, List.setIfInBounds_toArray, List.set_cons_zero, List.set_cons_succ]
      refine wpAnyH_take (i := 2) (v := ?v43) rfl (by kernel_rfl) (by kernel_rfl) (by kernel_rfl) (fun _ _ _ h => h) (Or.inl ⟨by rfl, ?y43⟩) (by assumption) ?r43
      case y43 =>
        intro wq hSw
        clear hSw
        go_simp
        with_reducible rfl
      simp only [Act.put, List.getElem_toArray, List.getElem_cons_succ, List.getElem_cons_zero, List.setIfInBounds_toArray, List.set_cons_zero, List.set_cons_succ]
      refine wpAnyH_take (i := 3) (v := ?v44) rfl (by kernel_rfl) (by kernel_rfl) (by kernel_rfl) (fun _ _ _ h => h) (Or.inl ⟨by rfl, ?y44⟩) (by assumption) ?r44
      case y44 =>
        intro wq hSw
        clear hSw
        go_simp
        with_reducible rfl
      simp only [Act.put, List.getElem_toArray, List.getElem_cons_succ, List.getElem_cons_zero, List.setIfInBounds_toArray, List.set_cons_zero, List.set_cons_succ]
      refine wpAnyH_take (i := 4) (v := ?v45) rfl (by kernel_rfl) (by kernel_rfl) (by kernel_rfl) (fun _ _ _ h => h) (Or.inl ⟨by rfl, ?y45⟩) (by assumption) ?r45
      case y45 =>
        intro wq hSw
        have q0 := hSw.cell F3.out nV
        clear hSw
        go_simp
        with_reducible rfl
      simp only [Act.put, List.getElem_toArray, List.getElem_cons_succ, List.getElem_cons_zero, List.setIfInBounds_toArray, List.set_cons_zero, List.set_cons_succ]
      refine wpAnyH_take (i := 5) (v := ?v46) rfl (by kernel_rfl) (by kernel_rfl) (by kernel_rfl) (fun _ _ _ h => h) (Or.inl ⟨by rfl, ?y46⟩) (by assumption) ?r46
      case y46 =>
        intro wq hSw
        clear hSw
        go_simp
        with_reducible rfl
      simp only [Act.put, List.getElem_toArray, List.getElem_cons_succ, List.getElem_cons_zero, List.setIfInBounds_toArray, List.set_cons_zero, List.set_cons_succ]
      refine wpAnyH_take (i := 6) (v := ?v47) rfl (by kernel_rfl) (by kernel_rfl) (by kernel_rfl) (fun _ _ _ h => h) (Or.inl ⟨by rfl, ?y47⟩) (by assumption) ?r47
      case y47 =>
        intro wq hSw
        have q0 := hSw.cell FB.out nB
        clear hSw
        go_simp
        with_reducible rfl
      simp only [Act.put, List.getElem_toArray, List.getElem_cons_succ, List.getElem_cons_zero, List.setIfInBounds_toArray, List.set_cons_zero, List.set_cons_succ]
      refine wpAnyH_take (i := 7) (v := ?v48) rfl (by kernel_rfl) (by kernel_rfl) (by kernel_rfl) (fun _ _ _ h => h) (Or.inl ⟨by rfl, ?y48⟩) (by assumption) ?r48
      case y48 =>
        intro wq hSw
        clear hSw
        go_simp
        with_reducible rfl
      simp only [Act.put, List.getElem_toArray, List.getElem_cons_succ, List.getElem_cons_zero, List.setIfInBounds_toArray, List.set_cons_zero, List.set_cons_succ]
      refine wpAnyH_take (i := 8) (v := ?v49) rfl (by kernel_rfl) (by kernel_rfl) (by kernel_rfl) (fun _ _ _ h => h) (Or.inl ⟨by rfl, ?y49⟩) (by assumption) ?r49
      case y49 =>
        intro wq hSw
        have q0 := hSw.cell FA.out nA
        clear hSw
        go_simp
        with_reducible rfl
      simp only [Act.put, List.getElem_toArray, List.getElem_cons_succ, List.getElem_cons_zero, List.setIfInBounds_toArray, List.set_cons_zero, List.set_cons_succ]
      refine wpAnyH_take (i := 9) (v := ?v50) rfl (by kernel_rfl) (by kernel_rfl) (by kernel_rfl) (fun _ _ _ h => h) (Or.inl ⟨by rfl, ?y50⟩) (by assumption) ?r50
      case y50 =>
        intro wq hSw
        clear hSw
        go_simp
        with_reducible rfl
      simp only [Act.put, List.getElem_toArray, List.getElem_cons_succ, List.getElem_cons_zero, List.setIfInBounds_toArray, List.set_cons_zero, List.set_cons_succ]
      refine wpAnyH_take (i := 10) (v := ?v51) rfl (by kernel_rfl) (by kernel_rfl) (by kernel_rfl) (fun _ _ _ h => h) (Or.inl ⟨by rfl, ?y51⟩) (by assumption) ?r51
      case y51 =>
        intro wq hSw
        clear hSw
        go_simp
        with_reducible rfl
      simp only [Act.put, List.getElem_toArray, List.getElem_cons_succ, List.getElem_cons_zero, List.setIfInBounds_toArray, List.set_cons_zero, List.set_cons_succ]
      refine wpAnyH_take (i := 11) (v := ?v52) rfl (by kernel_rfl) (by kernel_rfl) (by kernel_rfl) (fun _ _ _ h => h) (Or.inl ⟨by rfl, ?y52⟩) (by assumption) ?r52
      case y52 =>
        intro wq hSw
        clear hSw
        go_simp
        with_reducible rfl
      simp only [Act.put, List.getElem_toArray, List.getElem_cons_succ, List.getElem_cons_zero, List.setIfInBounds_toArray, List.set_cons_zero, List.set_cons_succ]
      refine wpAnyH_take (i := 12) (v := ?v53) rfl (by kernel_rfl) (by kernel_rfl) (by kernel_rfl) (fun _ _ _ h => h) (Or.inl ⟨by rfl, ?y53⟩) (by assumption) ?r53
      case y53 =>
        intro wq hSw
        clear hSw
        go_simp
        with_reducible rfl
      simp only [Act.put, List.getElem_toArray, List.getElem_cons_succ, List.getElem_cons_zero, List.setIfInBounds_toArray, List.set_cons_zero, List.set_cons_succ]
      refine wpAnyH_take (i := 13) (v := ?v54) rfl (by kernel_rfl) (by kernel_rfl) (by kernel_rfl) (fun _ _ _ h => h) (Or.inl ⟨by rfl, ?y54⟩) (by assumption) ?r54
      case y54 =>
        intro wq hSw
        have q0 := hSw.cell X0.out nL
        have q1 := hSw.cell X1.out nL
        have q2 := hSw.cell X2.out nL
        clear hSw
        go_simp
        with_reducible rfl
      simp only [Act.put, List.getElem_toArray, List.getElem_cons_succ, List.getElem_cons_zero, List.setIfInBounds_toArray, List.set_cons_zero, List.set_cons_succ]
      refine wpAnyH_ready (rs := [14]) (by kernel_rfl) (by simp) ?_
      refine AllReadyH.cons rfl (fun K hK => ?_) AllReadyH.nil
      have q7 := YR.out
      rw [if_pos (by rfl)]
      obtain ⟨y0, y1, y2, yf⟩ := q7
      go_simp
      have RD := Lib.hid (heap_setCell_same _ _ 2 _ 42 (.int .i64 x.n) (heap_setCell_same _ _ 1 _ 42 (.int .i64 x.d) (heap_setCell_same _ _ 0 _ 42 (.int .i64 x.k) (show w2.drew.heap[R8]? = _ from H8.out))))
      have KD : Hid (Kp (fun q => q = R8) w2.drew (((w2.drew.setCell ⟨R8, 0, none⟩ (.int .i64 x.k)).setCell ⟨R8, 1, none⟩ (.int .i64 x.d)).setCell ⟨R8, 2, none⟩ (.int .i64 x.n))) := Lib.hid (((Kp.setCell (F := fun q => q = R8) _ (a := ⟨R8, 0, none⟩) _ rfl).trans (Kp.setCell (F := fun q => q = R8) _ (a := ⟨R8, 1, none⟩) _ rfl) fun _ h => .inl h).trans (Kp.setCell (F := fun q => q = R8) _ (a := ⟨R8, 2, none⟩) _ rfl) fun _ h => .inl h)
      refine hK.out _ _ (hHeld.trans KD.out fun q hq => .inl hq) (fun hHeld => ?_)
      clear hK K
      refine wpAnyH_done (by kernel_rfl) ?_ _
      have kf := hHeld
      have KF := Lib.hid kf
      clear hHeld kf
      go_wp2_with fail
      go_meet
      case rel => exact ⟨RD.out, (K12.out.trans KF.out fun q hq => .inr (by have := HR8.out; omega))⟩
  case rest =>
    obtain ⟨h8, k8⟩ := hcut
    have HC8 := Lib.hid h8
    have KC := Lib.hid k8
    have G3 := Lib.hid (k8.cell E3.out (fun h => h))
    have GB := Lib.hid (k8.cell B0.out (fun h => h))
    have GA := Lib.hid (k8.cell AC1.out (fun h => h))
    have hwa : IntKind.i64.wrap ((a : Int) + 1) = (a : Int) + 1 := IntWalk.i64_in _ (by omega)
    have af : wc.drew.frozen? ⟨ga, j, none⟩ = false := by
      obtain ⟨_, _, cur, hc⟩ := ownsRow_block HN.out.ask HGA.out
      exact frozen_of_row _ _ j _ _ (k8.heap (K1.out.heap hc (fun e => HBGA.out e.symm)) (fun h => h))
    have aj : wc.drew.cell? ⟨ga, j, none⟩ = some (.int .i64 (a : Int)) := GA.out
    have AF := Lib.hid af
    have AJ := Lib.hid aj
    clear h8 k8 af aj H8 K12 MC1 HOL HOA h0
    go_wp2_with fail
    refine wp_region_last (S := Kp (fun _ => False) wc) 10 (by kernel_rfl) (Kp.drew _ _) (fun hHeld => ?_)
    refine wpAnyL_take (i := 0) (v := ?v55) rfl (by kernel_rfl) (by kernel_rfl) (by kernel_rfl) (fun _ _ _ h => h) (Or.inl ⟨by rfl, ?y55⟩) (by assumption) ?r55
    case y55 =>
      intro wq hSw
      clear hSw
      go_simp
      with_reducible rfl
    simp only [Act.put, List.getElem_toArray, List.getElem_cons_succ, List.getElem_cons_zero, List.setIfInBounds_toArray, List.set_cons_zero, List.set_cons_succ]
    refine wpAnyL_take (i := 1) (v := ?v56) rfl (by kernel_rfl) (by kernel_rfl) (by kernel_rfl) (fun _ _ _ h => h) (Or.inl ⟨by rfl, ?y56⟩) (by assumption) ?r56
    case y56 =>
      intro wq hSw
      clear hSw
      go_simp
      with_reducible rfl
    simp only [Act.put, List.getElem_toArray, List.getElem_cons_succ, List.getElem_cons_zero, List.setIfInBounds_toArray, List.set_cons_zero, List.set_cons_succ]
    refine wpAnyL_take (i := 2) (v := ?v57) rfl (by kernel_rfl) (by kernel_rfl) (by kernel_rfl) (fun _ _ _ h => h) (Or.inl ⟨by rfl, ?y57⟩) (by assumption) ?r57
    case y57 =>
      intro wq hSw
      clear hSw
      go_simp
      with_reducible rfl
    simp only [Act.put, List.getElem_toArray, List.getElem_cons_succ, List.getElem_cons_zero, List.setIfInBounds_toArray, List.set_cons_zero, List.set_cons_succ]
    refine wpAnyL_take (i := 3) (v := ?v58) rfl (by kernel_rfl) (by kernel_rfl) (by kernel_rfl) (fun _ _ _ h => h) (Or.inl ⟨by rfl, ?y58⟩) (by assumption) ?r58
    case y58 =>
      intro wq hSw
      have q0 := hSw.cell G3.out (fun h => h)
      clear hSw
      go_simp
      with_reducible rfl
    simp only [Act.put, List.getElem_toArray, List.getElem_cons_succ, List.getElem_cons_zero, List.setIfInBounds_toArray, List.set_cons_zero, List.set_cons_succ]
    refine wpAnyL_take (i := 4) (v := ?v59) rfl (by kernel_rfl) (by kernel_rfl) (by kernel_rfl) (fun _ _ _ h => h) (Or.inl ⟨by rfl, ?y59⟩) (by assumption) ?r59
    case y59 =>
      intro wq hSw
      clear hSw
      go_simp
      with_reducible rfl
    simp only [Act.put, List.getElem_toArray, List.getElem_cons_succ, List.getElem_cons_zero, List.setIfInBounds_toArray, List.set_cons_zero, List.set_cons_succ]
    refine wpAnyL_take (i := 5) (v := ?v60) rfl (by kernel_rfl) (by kernel_rfl) (by kernel_rfl) (fun _ _ _ h => h) (Or.inl ⟨by rfl, ?y60⟩) (by assumption) ?r60
    case y60 =>
      intro wq hSw
      have q0 := hSw.cell GB.out (fun h => h)
      clear hSw
      go_simp
      with_reducible rfl
    simp only [Act.put, List.getElem_toArray, List.getElem_cons_succ, List.getElem_cons_zero, List.setIfInBounds_toArray, List.set_cons_zero, List.set_cons_succ]
    refine wpAnyL_take (i := 6) (v := ?v61) rfl (by kernel_rfl) (by kernel_rfl) (by kernel_rfl) (fun _ _ _ h => h) (Or.inl ⟨by rfl, ?y61⟩) (by assumption) ?r61
    case y61 =>
      intro wq hSw
      clear hSw
      go_simp
      with_reducible rfl
    simp only [Act.put, List.getElem_toArray, List.getElem_cons_succ, List.getElem_cons_zero, List.setIfInBounds_toArray, List.set_cons_zero, List.set_cons_succ]
    refine wpAnyL_take (i := 7) (v := ?v62) rfl (by kernel_rfl) (by kernel_rfl) (by kernel_rfl) (fun _ _ _ h => h) (Or.inl ⟨by rfl, ?y62⟩) (by assumption) ?r62
    case y62 =>
      intro wq hSw
      have q0 := hSw.cell GA.out (fun h => h)
      clear hSw
      go_simp
      with_reducible rfl
    simp only [Act.put, List.getElem_toArray, List.getElem_cons_succ, List.getElem_cons_zero, List.setIfInBounds_toArray, List.set_cons_zero, List.set_cons_succ]
    refine wpAnyL_take (i := 8) (v := ?v63) rfl (by kernel_rfl) (by kernel_rfl) (by kernel_rfl) (fun _ _ _ h => h) (Or.inl ⟨by rfl, ?y63⟩) (by assumption) ?r63
    case y63 =>
      intro wq hSw
      clear hSw
      go_simp
      with_reducible rfl
    simp only [Act.put, List.getElem_toArray, List.getElem_cons_succ, List.getElem_cons_zero, List.setIfInBounds_toArray, List.set_cons_zero, List.set_cons_succ]
    refine wpAnyL_take (i := 9) (v := ?v64) rfl (by kernel_rfl) (by kernel_rfl) (by kernel_rfl) (fun _ _ _ h => h) (Or.inl ⟨by rfl, ?y64⟩) (by assumption) ?r64
    case y64 =>
      intro wq hSw
      clear hSw
      go_simp
      with_reducible rfl
    simp only [Act.put, List.getElem_toArray, List.getElem_cons_succ, List.getElem_cons_zero, List.setIfInBounds_toArray, List.set_cons_zero, List.set_cons_succ]
    refine wpAnyL_one (i := 10) (by kernel_rfl) rfl (fun K hK => ?_)
    have af := AF.out
    have aj := AJ.out
    rw [if_pos (by rfl)]
    go_simp
    refine hK.out _ _ (fun h => absurd rfl h) (fun _ => ?_)
    clear hK K
    refine wpAnyL_done (by kernel_rfl) ?_ _
    try clear af aj
    obtain ⟨w4, hw4⟩ : ∃ w4, w4 = (wc.setCell ⟨ga, j, none⟩ (.int .i64 ((a : Int) + 1))).drew := ⟨_, rfl⟩
    have k4 : Kp (fun q => q = ga) wc w4 := by rw [hw4]; exact (Kp.setCell (F := fun q => q = ga) wc (a := ⟨ga, j, none⟩) _ rfl).trans (Kp.drew (fun q => q = ga) _) fun _ h => .inl h
    have hask4 : w4.ownsRow B 3 1 V.va (st.asked.set j (a + 1)).length (askV (st.asked.set j (a + 1))) := by
      rw [hw4, askV_set, List.length_set]
      refine (Kp.drew (fun _ => False) _).own (own_set (KC.out.own (K1.out.own HN.out.ask fun k hk e => HN.out.b_ask (by rw [hk, e])) fun _ _ h => h) HGA.out j (by rw [HLA.out, ← HNS.out]; exact hj2) _) fun _ _ h => h
    rw [← hw4]
    have kV : Kp V.foot w w4 := ((K1.out.mono (G := V.foot) fun k hk => .inl (.inl hk)).trans KC.out fun _ (h : False) => h.elim).trans k4 fun k hk => .inl (.inr (.inl (by rw [hk]; exact HGA.out)))
    have N4 : RefP w4 B V st1 := by
      have hb := HN.out.build kV V.vr (s' := st1) (by rw [HST1.out]) (by rw [HST1.out]) (by rw [HST1.out]) (by rw [HST1.out, ← HNN.out]; exact k4.heap (KC.out.heap O1.out (fun h => h)) HBGA.out) (by rw [HST1.out]; exact hask4) (by
        rw [HST1.out]
        refine k4.own (KC.out.own (K1.out.own HN.out.rep fun k hk e => HN.out.b_rep (by rw [hk, e])) fun _ _ h => h) fun k hk e => HN.out.rep_ask hk (by rw [e]; exact HGA.out)) (by rw [HST1.out]; exact nok_st1 HN.out.ok j a (HN.out.ok.ha a (List.mem_of_getElem? HA1.out)) (by rw [← HNN.out]; exact hn))
      exact hb
    have hr8 := HR8.out
    have nA8 : R8 ≠ ga := by omega
    have nAB : w.heap.size ≠ ga := by omega
    have hx4 := k4.heap HC8.out nA8
    have hb4 := k4.heap (KC.out.heap B1.out (fun h => h)) nAB
    have hn1 : st1.n = n + 1 := by rw [HST1.out, HNN.out]
    have hp1 : st1.packets = st.packets := by rw [HST1.out]
    have ho1 : st1.old = st.old := by rw [HST1.out]
    have HN1 := Lib.hid hn1
    have HP1 := Lib.hid hp1
    have HO1 := Lib.hid ho1
    have HN4 := Lib.hid N4
    have KV4 := Lib.hid kV
    have HX4 := Lib.hid hx4
    have HB4 := Lib.hid hb4
    have x0 : w4.cell? ⟨R8, 0, none⟩ = some (.int .i64 x.k) := cell_of_row _ _ 0 _ _ _ hx4
    have x1 : w4.cell? ⟨R8, 1, none⟩ = some (.int .i64 x.d) := cell_of_row _ _ 1 _ _ _ hx4
    have x2 : w4.cell? ⟨R8, 2, none⟩ = some (.int .i64 x.n) := cell_of_row _ _ 2 _ _ _ hx4
    have rr : w4.rangeAt w.heap.size 1 (byteCells hs) := by
      intro q v hv
      rw [cell_of_row _ _ _ _ _ _ hb4, HRL.out]
      have e : (reqL (j : Int) hs)[1 + q]? = (byteCells hs)[q]? := by rw [Nat.add_comm]; rfl
      simpa [e] using hv
    have RR := Lib.hid rr
    have HI1 : Hid ((Try.prog.info? 44).map (·.size) = some (byteCells hs).length) := Lib.hid (info44.trans (by simp [byteCells, hh]))
    obtain ⟨NL, hNL⟩ : ∃ N, N = L.length := ⟨_, rfl⟩
    have HNL := Lib.hid hNL
    have hsz4 := kV.size
    clear hw4 k4 hask4 kV N4 hr8 hx4 hb4 hn1 hp1 ho1 rr hNL hHeld
    go_wp2_with (refine wpList_load_mid rfl 44 (.tmp 73) rfl _ _ rfl _ _ RR.out Try.underlying44 rfl HI1.out ?_)
    clear x0 x1 x2
    refine (rbytes_any HN4.out x hs hh).mono ?_
    rintro e w5 ⟨v, rfl, hv, k5⟩
    rw [HP1.out, HO1.out, ← HLL.out] at hv
    obtain ⟨sp5, cap5, hv5, hsrc, hty⟩ := hv
    rw [← HNL.out] at hv5
    subst hv5
    have HTY := Lib.hid hty
    have K5 := Lib.hid k5
    have HSRC := Lib.hid hsrc
    clear k5 hsrc hty
    obtain ⟨rs, hrs⟩ : ∃ rs : List Rp, rs = L.map fun b => ⟨(st.n : Int) + 1, (j : Int), now + max x.d 0, b⟩ := ⟨_, rfl⟩
    have hrl2 : rs.length = NL := by rw [hrs, List.length_map, HNL.out]
    have hNL2 : NL ≤ 2 := by rw [HNL.out, HLL.out]; exact bytesS_len _ _ _ _
    have hr1 : st1.replies = st.replies := by rw [HST1.out]
    have hok1 : ∀ k, k ≤ NL → NOk { st1 with replies := st1.replies ++ rs.take k } := by
      intro k hk
      have o := HN4.out.ok
      refine ⟨o.hp, o.ho, o.lp, o.lo, o.la, o.ls, o.hs, o.ha, o.hn, ?_⟩
      have h1 := HN.out.ok.lr
      simp only [List.length_append, List.length_take, hr1, HN1.out]
      have h2 := HNN.out
      omega
    have N5 : RefP w5 B V st1 := HN4.out.keep0 K5.out
    have K45 := Lib.hid (KV4.out.trans K5.out fun _ (h : False) => h.elim)
    have hx5 := K5.out.heap HX4.out (fun h => h)
    have hb5 := K5.out.heap HB4.out (fun h => h)
    have HX5 := Lib.hid hx5
    have HB5 := Lib.hid hb5
    have HRS := Lib.hid hrs
    have HRL2 := Lib.hid hrl2
    have HOK1 := Lib.hid hok1
    have HR1 := Lib.hid hr1
    have HN5 := Lib.hid N5
    have nfR : ¬ V.foot w.heap.size := N5.not_foot hb5 (by decide) (by decide) (by decide)
    have nfX : ¬ V.foot R8 := N5.not_foot hx5 (by decide) (by decide) (by decide)
    obtain ⟨md, hmd⟩ : ∃ md : Int, max x.d 0 = md := ⟨_, rfl⟩
    have hxd := (HN.out.ok.hs l (List.mem_of_getElem? HL1.out)).2
    have hmd1 : md ≤ 1000000 := by
      have : x.d ≤ 1000000 := by
        have hx := HX.out
        unfold behS at hx
        split at hx
        · rename_i y hy
          rw [← hx]
          exact hxd y (List.mem_of_getElem? hy)
        · rw [← hx]; decide
      omega
    have hmd0 : 0 ≤ md := by omega
    have hif : (if x.d < 0 then (0 : Int) else x.d) = md := by rw [← hmd]; split <;> omega
    have hwa2 : IntKind.i64.wrap (now + md) = now + md := IntWalk.i64_in _ (by omega)
    have HMD := Lib.hid hmd
    clear hrs hrl2 hok1 hr1 N5 hx5 hb5 hxd hmd K5
    go_wp2_with fail
    go_loopw [10] (fun i wr => RRepRel w5 B V st1 rs i wr) (fun i _ => NL - (Go.RowKit.intOf i).toNat)
    case atStart =>
      refine ⟨0, V.vr, rfl, by omega, ?_, Kp.refl _ _, fun q hq => .inl hq⟩
      have := HN5.out
      simpa using this
    case round =>
      obtain ⟨k, vr', rfl, hk, hNr, hkp, hloc⟩ := hrel
      rw [HRL2.out] at hk
      have HNR := Lib.hid hNr
      have HKP := Lib.hid hkp
      have HLOC := Lib.hid hloc
      have hxr := hkp.heap HX5.out nfX
      have hbr := hkp.heap HB5.out nfR
      obtain ⟨c0, c1, c2, c3, c4, c5, cf⟩ := obj_cells hNr.obj
      dsimp only at c4 c5 cf
      rw [HN1.out] at c4
      have C4 : Hid (wr.cell? ⟨V.b, 4, none⟩ = some (.int .i64 ((n : Int) + 1))) := Lib.hid c4
      have C5 := Lib.hid c5
      have hobj := hNr.obj
      dsimp only at hobj
      have HOBJ := Lib.hid hobj
      have R0 : Hid (wr.cell? ⟨w.heap.size, 0, none⟩ = some (.int .i64 (j : Int))) := Lib.hid (by rw [cell_of_row _ _ 0 _ _ _ hbr, HRL.out]; rfl)
      have XD : Hid (wr.cell? ⟨R8, 1, none⟩ = some (.int .i64 x.d)) := Lib.hid (cell_of_row _ _ 1 _ _ _ hxr)
      have nb5 : ¬ vr'.ownBlock = some V.b := hNr.b_rep
      have nR5 : ¬ vr'.ownBlock = some w.heap.size := other_type hNr.rep hbr (by decide)
      have nX5 : ¬ vr'.ownBlock = some R8 := other_type hNr.rep hxr (by decide)
      clear hNr hkp hloc hxr hbr c0 c1 c2 c3 c4 c5 cf hobj
      by_cases hlt : k < NL
      · obtain ⟨b, hb⟩ : ∃ b, L[k]? = some b := ⟨_, List.getElem?_eq_getElem (by rw [← HNL.out]; exact hlt)⟩
        obtain ⟨g5, o5, esp, hr5⟩ := HSRC.out.2 (by rw [← HNL.out]; omega)
        subst esp
        obtain ⟨cs5, h5⟩ := HTY.out g5 ⟨o5, rfl⟩
        have hcs : wr.cell? ⟨g5, o5 + k, none⟩ = some (.string b) :=
          HKP.out.cell (hr5 k _ (by simp [strV, hb])) (HN5.out.not_foot h5 (by decide) (by decide) (by decide))
        have CS := Lib.hid hcs
        have hr9 := HKP.out.heap h5 (HN5.out.not_foot h5 (by decide) (by decide) (by decide))
        have nS5 : ¬ vr'.ownBlock = some g5 := other_type HNR.out.rep hr9 (by decide)
        have hrk : rs[k]? = some ⟨(n : Int) + 1, (j : Int), now + md, b⟩ := by rw [HRS.out, List.getElem?_map, hb, HMD.out, HNN.out]; rfl
        have HRK := Lib.hid hrk
        have k0 : (0 : Int) ≤ (k : Int) := by omega
        have k1 : (k : Int) < (NL : Int) := by omega
        obtain ⟨i0, hi, hz0, hz1, hz2⟩ := info_parts info50
        clear hr5 h5 hb hrk hcs hr9
        go_wp2_with fail
        refine wp_region_last (S := Kp (fun q => vr'.ownBlock = some q) wr) 25 (by kernel_rfl) ((Kp.drew (fun _ => False) wr).zero) (fun hHeld => ?_)
        refine wpAnyL_take (i := 0) (v := ?v65) rfl (by kernel_rfl) (by kernel_rfl) (by kernel_rfl) (fun _ _ _ h => h) (Or.inl ⟨by rfl, ?y65⟩) (by assumption) ?r65
        case y65 =>
          intro wq hSw
          clear hSw
          go_simp
          with_reducible rfl
        simp only [Act.put, List.getElem_toArray, List.getElem_cons_succ, List.getElem_cons_zero, List.setIfInBounds_toArray, List.set_cons_zero, List.set_cons_succ]
        refine wpAnyL_take (i := 1) (v := ?v66) rfl (by kernel_rfl) (by kernel_rfl) (by kernel_rfl) (fun _ _ _ h => h) (Or.inl ⟨by rfl, ?y66⟩) (by assumption) ?r66
        case y66 =>
          intro wq hSw
          clear hSw
          go_simp
          with_reducible rfl
        simp only [Act.put, List.getElem_toArray, List.getElem_cons_succ, List.getElem_cons_zero, List.setIfInBounds_toArray, List.set_cons_zero, List.set_cons_succ]
        refine wpAnyL_take (i := 2) (v := ?v67) rfl (by kernel_rfl) (by kernel_rfl) (by kernel_rfl) (fun _ _ _ h => h) (Or.inl ⟨by rfl, ?y67⟩) (by assumption) ?r67
        case y67 =>
          intro wq hSw
          clear hSw
          go_simp
          with_reducible rfl
        simp only [Act.put, List.getElem_toArray, List.getElem_cons_succ, List.getElem_cons_zero, List.setIfInBounds_toArray, List.set_cons_zero, List.set_cons_succ]
        refine wpAnyL_take (i := 3) (v := ?v68) rfl (by kernel_rfl) (by kernel_rfl) (by kernel_rfl) (fun _ _ _ h => h) (Or.inl ⟨by rfl, ?y68⟩) (by assumption) ?r68
        case y68 =>
          intro wq hSw
          clear hSw
          go_simp
          with_reducible rfl
        simp only [Act.put, List.getElem_toArray, List.getElem_cons_succ, List.getElem_cons_zero, List.setIfInBounds_toArray, List.set_cons_zero, List.set_cons_succ]
        refine wpAnyL_take (i := 4) (v := ?v69) rfl (by kernel_rfl) (by kernel_rfl) (by kernel_rfl) (fun _ _ _ h => h) (Or.inl ⟨by rfl, ?y69⟩) (by assumption) ?r69
        case y69 =>
          intro wq hSw
          have q0 := hSw.cell C5.out nb5
          clear hSw
          go_simp
          with_reducible rfl
        simp only [Act.put, List.getElem_toArray, List.getElem_cons_succ, List.getElem_cons_zero, List.setIfInBounds_toArray, List.set_cons_zero, List.set_cons_succ]
        refine wpAnyL_take (i := 5) (v := ?v70) rfl (by kernel_rfl) (by kernel_rfl) (by kernel_rfl) (fun _ _ _ h => h) (Or.inl ⟨by rfl, ?y70⟩) (by assumption) ?r70
        case y70 =>
          intro wq hSw
          clear hSw
          go_simp
          with_reducible rfl
        simp only [Act.put, List.getElem_toArray, List.getElem_cons_succ, List.getElem_cons_zero, List.setIfInBounds_toArray, List.set_cons_zero, List.set_cons_succ]
        refine wpAnyL_take (i := 6) (v := ?v71) rfl (by kernel_rfl) (by kernel_rfl) (by kernel_rfl) (fun _ _ _ h => h) (Or.inl ⟨by rfl, ?y71⟩) (by assumption) ?r71
        case y71 =>
          intro wq hSw
          clear hSw
          go_simp
          with_reducible rfl
        simp only [Act.put, List.getElem_toArray, List.getElem_cons_succ, List.getElem_cons_zero, List.setIfInBounds_toArray, List.set_cons_zero, List.set_cons_succ]
        refine wpAnyL_take (i := 7) (v := ?v72) rfl (by kernel_rfl) (by kernel_rfl) (by kernel_rfl) (fun _ _ _ h => h) (Or.inl ⟨by rfl, ?y72⟩) (by assumption) ?r72
        case y72 =>
          intro wq hSw
          clear hSw
          go_simp
          with_reducible rfl
        simp only [Act.put, List.getElem_toArray, List.getElem_cons_succ, List.getElem_cons_zero, List.setIfInBounds_toArray, List.set_cons_zero, List.set_cons_succ]
        refine wpAnyL_take (i := 8) (v := ?v73) rfl (by kernel_rfl) (by kernel_rfl) (by kernel_rfl) (fun _ _ _ h => h) (Or.inl ⟨by rfl, ?y73⟩) (by assumption) ?r73
        case y73 =>
          intro wq hSw
          have q0 := hSw.cell C4.out nb5
          clear hSw
          go_simp
          with_reducible rfl
        simp only [Act.put, List.getElem_toArray, List.getElem_cons_succ, List.getElem_cons_zero, List.setIfInBounds_toArray, List.set_cons_zero, List.set_cons_succ]
        refine wpAnyL_take (i := 9) (v := ?v74) rfl (by kernel_rfl) (by kernel_rfl) (by kernel_rfl) (fun _ _ _ h => h) (Or.inl ⟨by rfl, ?y74⟩) (by assumption) ?r74
        case y74 =>
          intro wq hSw
          clear hSw
          go_simp
          with_reducible rfl
        simp only [Act.put, List.getElem_toArray, List.getElem_cons_succ, List.getElem_cons_zero, List.setIfInBounds_toArray, List.set_cons_zero, List.set_cons_succ]
        refine wpAnyL_take (i := 10) (v := ?v75) rfl (by kernel_rfl) (by kernel_rfl) (by kernel_rfl) (fun _ _ _ h => h) (Or.inl ⟨by rfl, ?y75⟩) (by assumption) ?r75
        case y75 =>
          intro wq hSw
          have q0 := hSw.cell R0.out nR5
          clear hSw
          go_simp
          with_reducible rfl
        simp only [Act.put, List.getElem_toArray, List.getElem_cons_succ, List.getElem_cons_zero, List.setIfInBounds_toArray, List.set_cons_zero, List.set_cons_succ]
        refine wpAnyL_take (i := 11) (v := ?v76) rfl (by kernel_rfl) (by kernel_rfl) (by kernel_rfl) (fun _ _ _ h => h) (Or.inl ⟨by rfl, ?y76⟩) (by assumption) ?r76
        case y76 =>
          intro wq hSw
          clear hSw
          go_simp
          with_reducible rfl
        simp only [Act.put, List.getElem_toArray, List.getElem_cons_succ, List.getElem_cons_zero, List.setIfInBounds_toArray, List.set_cons_zero, List.set_cons_succ]
        refine wpAnyL_take (i := 12) (v := ?v77) rfl (by kernel_rfl) (by kernel_rfl) (by kernel_rfl) (fun _ _ _ h => h) (Or.inl ⟨by rfl, ?y77⟩) (by assumption) ?r77
        case y77 =>
          intro wq hSw
          clear hSw
          go_simp
          with_reducible rfl
        simp only [Act.put, List.getElem_toArray, List.getElem_cons_succ, List.getElem_cons_zero, List.setIfInBounds_toArray, List.set_cons_zero, List.set_cons_succ]
        refine wpAnyL_take (i := 13) (v := ?v78) rfl (by kernel_rfl) (by kernel_rfl) (by kernel_rfl) (fun _ _ _ h => h) (Or.inl ⟨by rfl, ?y78⟩) (by assumption) ?r78
        case y78 =>
          intro wq hSw
          have q0 := hSw.cell XD.out nX5
          clear hSw
          go_simp
          with_reducible rfl
        simp only [Act.put, List.getElem_toArray, List.getElem_cons_succ, List.getElem_cons_zero, List.setIfInBounds_toArray, List.set_cons_zero, List.set_cons_succ]
        refine wpAnyL_take (i := 14) (v := ?v79) rfl (by kernel_rfl) (by kernel_rfl) (by kernel_rfl) (fun _ _ _ h => h) (Or.inl ⟨by rfl, ?y79⟩) (by assumption) ?r79
        case y79 =>
          intro wq hSw
          clear hSw
          go_simp
          with_reducible rfl
        simp only [Act.put, List.getElem_toArray, List.getElem_cons_succ, List.getElem_cons_zero, List.setIfInBounds_toArray, List.set_cons_zero, List.set_cons_succ]
        refine wpAnyL_take (i := 15) (v := ?v80) rfl (by kernel_rfl) (by kernel_rfl) (by kernel_rfl) (fun _ _ _ h => h) (Or.inl ⟨by rfl, ?y80⟩) (by assumption) ?r80
        case y80 =>
          intro wq hSw
          clear hSw
          go_simp
          with_reducible rfl
        simp only [Act.put, List.getElem_toArray, List.getElem_cons_succ, List.getElem_cons_zero, List.setIfInBounds_toArray, List.set_cons_zero, List.set_cons_succ]
        refine wpAnyL_take (i := 16) (v := ?v81) rfl (by kernel_rfl) (by kernel_rfl) (by kernel_rfl) (fun _ _ _ h => h) (Or.inl ⟨by rfl, ?y81⟩) (by assumption) ?r81
        case y81 =>
          intro wq hSw
          clear hSw
          go_simp
          with_reducible rfl
        simp only [Act.put, List.getElem_toArray, List.getElem_cons_succ, List.getElem_cons_zero, List.setIfInBounds_toArray, List.set_cons_zero, List.set_cons_succ]
        refine wpAnyL_take (i := 17) (v := ?v82) rfl (by kernel_rfl) (by kernel_rfl) (by kernel_rfl) (fun _ _ _ h => h) (Or.inl ⟨by rfl, ?y82⟩) (by assumption) ?r82
        case y82 =>
          intro wq hSw
          clear hSw
          go_simp
          with_reducible rfl
        simp only [Act.put, List.getElem_toArray, List.getElem_cons_succ, List.getElem_cons_zero, List.setIfInBounds_toArray, List.set_cons_zero, List.set_cons_succ]
        refine wpAnyL_take (i := 18) (v := ?v83) rfl (by kernel_rfl) (by kernel_rfl) (by kernel_rfl) (fun _ _ _ h => h) (Or.inl ⟨by rfl, ?y83⟩) (by assumption) ?r83
        case y83 =>
          intro wq hSw
          clear hSw
          go_simp
          with_reducible rfl
        simp only [Act.put, List.getElem_toArray, List.getElem_cons_succ, List.getElem_cons_zero, List.setIfInBounds_toArray, List.set_cons_zero, List.set_cons_succ]
        refine wpAnyL_take (i := 19) (v := ?v84) rfl (by kernel_rfl) (by kernel_rfl) (by kernel_rfl) (fun _ _ _ h => h) (Or.inl ⟨by rfl, ?y84⟩) (by assumption) ?r84
        case y84 =>
          intro wq hSw
          have q0 := hSw.cell CS.out nS5
          clear hSw
          go_simp
          with_reducible rfl
        simp only [Act.put, List.getElem_toArray, List.getElem_cons_succ, List.getElem_cons_zero, List.setIfInBounds_toArray, List.set_cons_zero, List.set_cons_succ]
        refine wpAnyL_take (i := 20) (v := ?v85) rfl (by kernel_rfl) (by kernel_rfl) (by kernel_rfl) (fun _ _ _ h => h) (Or.inl ⟨by rfl, ?y85⟩) (by assumption) ?r85
        case y85 =>
          intro wq hSw
          clear hSw
          go_simp
          with_reducible rfl
        simp only [Act.put, List.getElem_toArray, List.getElem_cons_succ, List.getElem_cons_zero, List.setIfInBounds_toArray, List.set_cons_zero, List.set_cons_succ]
        refine wpAnyL_one (i := 21) (by kernel_rfl) rfl (fun K hK => ?_)
        rw [if_pos (by rfl)]
        go_simp
        refine hK.out _ _ (fun _ => hHeld.trans (Kp.alloc (fun q => vr'.ownBlock = some q) _ _) fun _ h => .inl h) (fun hHeld => ?_)
        replace hHeld := hHeld (by decide)
        clear hK K
        refine wpAnyL_one (i := 22) (by kernel_rfl) rfl (fun K hK => ?_)
        rw [if_pos (by rfl)]
        refine wp_append_src _ (.tmp 86) (.tmp 103) 61 rfl B 50 i0 (.agg #[.int .i64 0, .int .i64 0, .int .i64 0, .string emptyS]) 4 40 Try.underlying61 hi hz0 hz1 hz2 rfl (by decide) vr' (st1.replies ++ rs.take k).length (rps (st1.replies ++ rs.take k)) rfl (((Kp.alloc (fun _ => False) wr _).trans (Kp.drew (fun _ => False) _) fun _ (h : False) => h.elim).own HNR.out.rep fun _ _ h => h) (some ⟨wr.heap.size, 0, none⟩) 1 1 (rpCells ⟨(n : Int) + 1, (j : Int), now + md, b⟩) rfl (Src.one wr 50 4 _ rfl) (by intro u hu; simp [rpCells] at hu; rcases hu with rfl | rfl | rfl | rfl <;> rfl) ?_ ?_ ?_ ?_
        · have := HNR.out.ok.lr; have h2 := HNR.out.ok.hn; unfold maxLen; dsimp only at this h2; omega
        · have := HNR.out.ok.lr; have h2 := HNR.out.ok.hn; dsimp only at this h2; omega
        · have := HNR.out.hB; have h2 := HNR.out.lt; simp; dsimp only at this h2; omega
        intro v6 w6 own6 grow6 _loc6
        obtain ⟨sp6, cap6, hv6, _, _, _, _⟩ := Src.of_own own6
        obtain ⟨N6, hN6⟩ : ∃ N, N = (st1.replies ++ rs.take k).length + 1 := ⟨_, rfl⟩
        rw [← hN6] at hv6 own6
        have OWN6 := Lib.hid own6
        have LOC6 := Lib.hid _loc6
        have HN6 := Lib.hid hN6
        have HV6 := Lib.hid hv6
        have K6 := Lib.hid (hHeld.trans (Kp.grown (F := fun q => vr'.ownBlock = some q) grow6 fun q hq => hq) fun _ h => .inl h)
        rw [hv6]
        clear own6 grow6 _loc6 hN6 hv6
        refine hK.out _ _ (fun _ => K6.out) (fun hHeld => ?_)
        replace hHeld := hHeld (by decide)
        clear hK K
        refine wpAnyL_one (i := 23) (by kernel_rfl) rfl (fun K hK => ?_)
        rw [if_pos (by rfl)]
        go_simp
        refine hK.out _ _ (fun _ => hHeld) (fun hHeld => ?_)
        replace hHeld := hHeld (by decide)
        clear hK K
        refine wpAnyL_take (i := 24) (v := ?v86) rfl (by kernel_rfl) (by kernel_rfl) (by kernel_rfl) (fun _ _ _ h => h) (Or.inl ⟨by rfl, ?y86⟩) (by assumption) ?r86
        case y86 =>
          intro wq hSw
          clear hSw
          go_simp
          with_reducible rfl
        simp only [Act.put, List.getElem_toArray, List.getElem_cons_succ, List.getElem_cons_zero, List.setIfInBounds_toArray, List.set_cons_zero, List.set_cons_succ]
        refine wpAnyL_one (i := 25) (by kernel_rfl) rfl (fun K hK => ?_)
        have q5 := K6.out.cell C5.out nb5
        have qf := frozen_kp (i := 5) K6.out HOBJ.out nb5
        rw [if_pos (by rfl)]
        go_simp
        refine hK.out _ _ (fun h => absurd rfl h) (fun _ => ?_)
        clear hK K
        refine wpAnyL_done (by kernel_rfl) ?_ _
        go_wp2_with fail
        have hV6 := HV6.out
        have htk : rs.take (k + 1) = rs.take k ++ [⟨(n : Int) + 1, (j : Int), now + md, b⟩] := by
          obtain ⟨hlt2, he⟩ := List.getElem?_eq_some_iff.1 HRK.out
          rw [List.take_succ_eq_append_getElem hlt2, he]
        have hstep := rrep_step ⟨(n : Int) + 1, (j : Int), now + md, b⟩ HNR.out K6.out (v6 := v6) (by have := OWN6.out; rw [HN6.out] at this; exact this) (by have := HOK1.out (k + 1) hlt; rw [htk, ← List.append_assoc] at this; exact this)
        rw [hV6] at hstep
        have kS : Kp (fun q => q = V.b ∨ vr'.ownBlock = some q) wr (w6.setCell ⟨V.b, 5, none⟩ (.slice sp6 N6 cap6)) := (K6.out.mono (G := fun q => q = V.b ∨ vr'.ownBlock = some q) fun q h => .inl (.inr h)).trans (Kp.setCell (F := fun q => q = V.b) w6 (a := ⟨V.b, 5, none⟩) _ rfl) fun q h => .inl (.inl h)
        refine ⟨⟨k + 1, .slice sp6 N6 cap6, by simp, by rw [HRL2.out]; omega, ?_, HKP.out.trans kS fun q hq => ?_, fun q hq => ?_⟩, by simp [Go.RowKit.intOf]; omega⟩
        · rw [htk, ← List.append_assoc]
          exact hstep
        · rcases hq with hq | hq
          · exact .inl (.inl hq)
          · rcases HLOC.out q hq with h | h
            · exact .inl (.inr (.inr h))
            · exact .inr h
        · rw [← hV6] at hq
          rcases LOC6.out with h | h
          · exact HLOC.out q (by rw [← h, hq])
          · rw [h] at hq
            cases hq
            refine .inr ?_
            have := HKP.out.size
            simp
            omega
      · obtain rfl : k = NL := by omega
        have q4 := C4.out
        go_wp2_with fail
        go_ret
        have htk : rs.take k = rs := List.take_of_length_le (by rw [HRL2.out]; omega)
        have he : askS st now (j : Int) hs = { st1 with replies := st1.replies ++ rs.take k } := by rw [htk, HR1.out, HRS.out, HST.out]
        rw [he]
        refine ⟨rfl, vr', HNR.out, K45.out.trans HKP.out fun q hq => .inl hq, fun q hq => ?_⟩
        rcases HLOC.out q hq with h | h
        · exact .inl h
        · have := K45.out.size
          exact .inr (by omega)

theorem rask_any {w : World} {B : Nat} {V : RV} {st : NS} (h : RefP w B V st) (now mir : Int) (hs : List UInt8) (hh : hs.length = 32) (hn : st.n < 100000) (hnow : -1000000 ≤ now ∧ now ≤ 1000000) :
    Calls Try.prog 22 #[.pointer (some ⟨V.b, 0, none⟩), .int .i64 now, reqV mir hs] w (RAskPost w B V (askS st now mir hs) (.int .i64 ((st.n : Int) + 1))) := by
  by_cases hf : mir < 0 ∨ (st.scripts.length : Int) ≤ mir
  · exact rask_far h now mir hs hn hf
  · obtain ⟨j, rfl⟩ : ∃ j : Nat, mir = (j : Int) := ⟨mir.toNat, by omega⟩
    exact rask_near h now j hs hh hn (by omega) hnow

end Go.Proofs.Ytlkamfmepjddkaa
