/- Walk: a request to the net. -/
import Derived.Test.YtlkamfmepjddkaaN4
import Derived.Deep.DeepCutAuto
set_option linter.unusedSimpArgs false
set_option linter.unusedVariables false
namespace Go.Proofs.Ytlkamfmepjddkaa
open Go.RowKit Go.Lib Go.Maps

def reqL (mir : Int) (h : List UInt8) : List Value := .int .i64 mir :: byteCells h
def reqV (mir : Int) (h : List UInt8) : Value := .agg (reqL mir h).toArray

theorem bytesS_len (p o : List Pk) (x : Bh) (h : List UInt8) : (bytesS p o x h).length ≤ 2 := by
  unfold bytesS
  repeat (split; · simp)
  simp

theorem askS_ok {st : NS} (h : NOk st) (now mir : Int) (hs : List UInt8) (hn : st.n < 100000) : NOk (askS st now mir hs) := by
  unfold askS
  split
  · exact ⟨h.hp, h.ho, h.lp, h.lo, h.la, h.ls, h.hs, fun k hk => Nat.le_succ_of_le (h.ha k hk), hn, by have := h.lr; simp only; omega⟩
  split
  · exact ⟨h.hp, h.ho, h.lp, h.lo, h.la, h.ls, h.hs, fun k hk => Nat.le_succ_of_le (h.ha k hk), hn, by have := h.lr; simp only; omega⟩
  · rename_i l hl
    refine ⟨h.hp, h.ho, h.lp, h.lo, by simp only [List.length_set]; exact h.la, h.ls, h.hs, fun k hk => ?_, hn, ?_⟩
    · rcases List.mem_or_eq_of_mem_set hk with hk | hk
      · exact Nat.le_succ_of_le (h.ha k hk)
      · subst hk
        have h1 : mir.toNat < st.asked.length := by rw [h.la]; exact (List.getElem?_eq_some_iff.1 hl).1
        have := h.ha _ (List.getElem_mem h1)
        simp only [List.getD, List.getElem?_eq_getElem h1, Option.getD_some]
        omega
    · have h1 := h.lr
      have h2 := bytesS_len st.packets st.old (behS l (st.asked.getD mir.toNat 0)) hs
      simp only [List.length_append, List.length_map]
      omega

/-- What a call of a method of the net's leaves. -/
def AskPost (w : World) (B : Nat) (V : NV) (st' : NS) (v : Value) (e : Ending) (w' : World) : Prop :=
  e = .returned v ∧ ∃ vr', NetP w' B { V with vr := vr' } st' ∧ Kp V.foot w w' ∧ (∀ k, vr'.ownBlock = some k → V.vr.ownBlock = some k ∨ w.heap.size ≤ k)

theorem frozen_kp {F : Nat → Prop} {w w' : World} (h : Kp F w w') {b i : Nat} {cs : Array Value} {t : TypeId} (hc : w.heap[b]? = some (.cells cs t (0, 0))) (hF : ¬ F b) : w'.frozen? ⟨b, i, none⟩ = false := frozen_of_row _ _ _ _ _ (h.heap hc hF)

set_option maxRecDepth 100000 in
set_option maxHeartbeats 4000000 in
theorem ask_far {w : World} {B : Nat} {V : NV} {st : NS} (h : NetP w B V st) (now mir : Int) (hs : List UInt8) (hn : st.n < 100000) (hfar : mir < 0 ∨ (st.scripts.length : Int) ≤ mir) :
    Calls Try.prog 16 #[.pointer (some ⟨V.b, 0, none⟩), .int .i64 now, reqV mir hs] w (AskPost w B V (askS st now mir hs) (.int .i64 ((st.n : Int) + 1))) := by
  have hst : askS st now mir hs = { st with n := st.n + 1 } := by
    unfold askS
    by_cases h0 : mir < 0
    · rw [if_pos h0]
    · rw [if_neg h0]
      have : st.scripts[mir.toNat]? = none := List.getElem?_eq_none (by omega)
      rw [this]
  obtain ⟨sm, cm, hvm, hncm, _, hsm, hom⟩ := Src.of_own h.mir
  obtain ⟨c0, c1, c2, c3, c4, c5, cf⟩ := obj_cells h.obj
  obtain ⟨n, hnn⟩ : ∃ n, n = st.n := ⟨_, rfl⟩
  obtain ⟨ns, hns⟩ : ∃ ns, ns = st.scripts.length := ⟨_, rfl⟩
  rw [← hnn] at c4 hn ⊢
  rw [← hns] at hsm hfar hvm
  have hlt := h.lt
  have HN := Lib.hid h
  have HST := Lib.hid hst
  have HNN := Lib.hid hnn
  have HNS := Lib.hid hns
  have HVM := Lib.hid hvm
  have HSM := Lib.hid hsm
  have hw : IntKind.i64.wrap ((n : Int) + 1) = (n : Int) + 1 := IntWalk.i64_in _ (by omega)
  obtain ⟨rl, hrl⟩ : ∃ rl, rl = (reqL mir hs).toArray := ⟨_, rfl⟩
  have hrv : reqV mir hs = .agg rl := by rw [hrl]; rfl
  rw [hrv]
  have HRL := Lib.hid hrl
  have d4 := fun o => (Kp.alloc (fun _ => False) w o).cell c4 (fun h => h)
  have d4f : ∀ o, (w.alloc o).frozen? ⟨V.b, 4, none⟩ = false := fun o => frozen_kp (Kp.alloc (fun _ => False) w o) HN.out.obj (fun h => h)
  have df : w.frozen? ⟨V.b, 4, none⟩ = false := cf 4
  clear c0 c1 c2 c3 c5 cf hvm h hst hnn hns hsm hrv hrl
  go_enter Try.func16, Try.ntmps16
  go_wp2_with fail
  obtain ⟨w1, hw1⟩ : ∃ w1, w1 = (w.setCell ⟨V.b, 4, none⟩ (.int .i64 ((n : Int) + 1))).alloc (.cells rl 46) := ⟨_, rfl⟩
  have ho1 : w1.heap[V.b]? = some (.cells #[V.vp, V.vo, V.vm, V.vi, .int .i64 ((n + 1 : Nat) : Int), V.vr] 71 (0, 0)) := by
    rw [hw1]
    refine (Kp.alloc (fun _ => False) _ _).heap ?_ (fun h => h)
    rw [heap_setCell_same _ V.b 4 _ 71 _ HN.out.obj]
    rfl
  have hb1 : w1.heap[w.heap.size]? = some (.cells rl 46 (0, 0)) := by
    rw [hw1]
    have := heap_alloc_new (w.setCell ⟨V.b, 4, none⟩ (.int .i64 ((n : Int) + 1))) (.cells rl 46)
    rwa [show (w.setCell ⟨V.b, 4, none⟩ (.int .i64 ((n : Int) + 1))).heap.size = w.heap.size by simp [World.setCell]] at this
  have k1 : Kp (fun k => k = V.b) w w1 := by rw [hw1]; exact (Kp.setCell (F := fun k => k = V.b) w (a := ⟨V.b, 4, none⟩) _ rfl).trans (Kp.alloc (fun k => k = V.b) _ _) fun _ h => .inl h
  have e3 : w1.cell? ⟨V.b, 3, none⟩ = some (.slice sm ns cm) := by rw [← HVM.out]; exact cell_of_row _ _ 3 _ _ _ ho1
  have e4 : w1.cell? ⟨V.b, 4, none⟩ = some (.int .i64 ((n : Int) + 1)) := cell_of_row _ _ 4 _ _ _ ho1
  have b0 : w1.cell? ⟨w.heap.size, 0, none⟩ = some (.int .i64 mir) := by rw [cell_of_row _ _ 0 _ _ _ hb1, HRL.out]; rfl
  rw [← hw1]
  have O1 := Lib.hid ho1
  have B1 := Lib.hid hb1
  have K1 := Lib.hid k1
  have E3 := Lib.hid e3
  have E4 := Lib.hid e4
  have B0 := Lib.hid b0
  clear hw1 ho1 hb1 k1 e3 e4 b0 d4 d4f df c4
  by_cases h0 : mir < 0
  · clear hfar
    refine wp_region_held_drew (S := Kp (fun _ => False) w1) (by kernel_rfl) (Kp.drew _ _) (fun hHeld => ?_)
    refine wpAnyH_take (i := 0) (v := ?v1) rfl (by kernel_rfl) (by kernel_rfl) (by kernel_rfl) (fun _ _ _ h => h) (Or.inl ⟨by rfl, ?y1⟩) (by assumption) ?r1
    case y1 =>
      intro wq hSw
      clear hSw
      go_simp
      with_reducible rfl
    simp only [Act.put, List.getElem_toArray, List.getElem_cons_succ, List.getElem_cons_zero, List.setIfInBounds_toArray, List.set_cons_zero, List.set_cons_succ]
    refine wpAnyH_take (i := 1) (v := ?v2) rfl (by kernel_rfl) (by kernel_rfl) (by kernel_rfl) (fun _ _ _ h => h) (Or.inl ⟨by rfl, ?y2⟩) (by assumption) ?r2
    case y2 =>
      intro wq hSw
      have q0 := hSw.cell B0.out (fun h => h)
      clear hSw
      go_simp
      with_reducible rfl
    simp only [Act.put, List.getElem_toArray, List.getElem_cons_succ, List.getElem_cons_zero, List.setIfInBounds_toArray, List.set_cons_zero, List.set_cons_succ]
    refine wpAnyH_take (i := 2) (v := ?v3) rfl (by kernel_rfl) (by kernel_rfl) (by kernel_rfl) (fun _ _ _ h => h) (Or.inl ⟨by rfl, ?y3⟩) (by assumption) ?r3
    case y3 =>
      intro wq hSw
      clear hSw
      go_simp
      with_reducible rfl
    simp only [Act.put, List.getElem_toArray, List.getElem_cons_succ, List.getElem_cons_zero, List.setIfInBounds_toArray, List.set_cons_zero, List.set_cons_succ]
    refine wpAnyH_take (i := 3) (v := ?v4) rfl (by kernel_rfl) (by kernel_rfl) (by kernel_rfl) (fun _ _ _ h => h) (Or.inl ⟨by rfl, ?y4⟩) (by assumption) ?r4
    case y4 =>
      intro wq hSw
      clear hSw
      go_simp
      with_reducible rfl
    simp only [Act.put, List.getElem_toArray, List.getElem_cons_succ, List.getElem_cons_zero, List.setIfInBounds_toArray, List.set_cons_zero, List.set_cons_succ]
    refine wpAnyH_take (i := 4) (v := _) rfl (by kernel_rfl) (by kernel_rfl) (by kernel_rfl) (fun _ _ _ h => h) (Or.inr ⟨by rfl, rfl⟩) (by assumption) ?_
    simp only [Act.put, List.getElem_toArray, List.getElem_cons_succ, List.getElem_cons_zero, List.setIfInBounds_toArray, List.set_cons_zero, List.set_cons_succ]
    refine wpAnyH_take (i := 5) (v := _) rfl (by kernel_rfl) (by kernel_rfl) (by kernel_rfl) (fun _ _ _ h => h) (Or.inr ⟨by rfl, rfl⟩) (by assumption) ?_
    simp only [Act.put, List.getElem_toArray, List.getElem_cons_succ, List.getElem_cons_zero, List.setIfInBounds_toArray, List.set_cons_zero, List.set_cons_succ]
    refine wpAnyH_take (i := 6) (v := _) rfl (by kernel_rfl) (by kernel_rfl) (by kernel_rfl) (fun _ _ _ h => h) (Or.inr ⟨by rfl, rfl⟩) (by assumption) ?_
    simp only [Act.put, List.getElem_toArray, List.getElem_cons_succ, List.getElem_cons_zero, List.setIfInBounds_toArray, List.set_cons_zero, List.set_cons_succ]
    refine wpAnyH_take (i := 7) (v := _) rfl (by kernel_rfl) (by kernel_rfl) (by kernel_rfl) (fun _ _ _ h => h) (Or.inr ⟨by rfl, rfl⟩) (by assumption) ?_
    simp only [Act.put, List.getElem_toArray, List.getElem_cons_succ, List.getElem_cons_zero, List.setIfInBounds_toArray, List.set_cons_zero, List.set_cons_succ]
    refine wpAnyH_take (i := 8) (v := _) rfl (by kernel_rfl) (by kernel_rfl) (by kernel_rfl) (fun _ _ _ h => h) (Or.inr ⟨by rfl, rfl⟩) (by assumption) ?_
    simp only [Act.put, List.getElem_toArray, List.getElem_cons_succ, List.getElem_cons_zero, List.setIfInBounds_toArray, List.set_cons_zero, List.set_cons_succ]
    refine wpAnyH_take (i := 9) (v := _) rfl (by kernel_rfl) (by kernel_rfl) (by kernel_rfl) (fun _ _ _ h => h) (Or.inr ⟨by rfl, rfl⟩) (by assumption) ?_
    simp only [Act.put, List.getElem_toArray, List.getElem_cons_succ, List.getElem_cons_zero, List.setIfInBounds_toArray, List.set_cons_zero, List.set_cons_succ]
    refine wpAnyH_take (i := 10) (v := _) rfl (by kernel_rfl) (by kernel_rfl) (by kernel_rfl) (fun _ _ _ h => h) (Or.inr ⟨by rfl, rfl⟩) (by assumption) ?_
    simp only [Act.put, List.getElem_toArray, List.getElem_cons_succ, List.getElem_cons_zero, List.setIfInBounds_toArray, List.set_cons_zero, List.set_cons_succ]
    refine wpAnyH_take (i := 11) (v := _) rfl (by kernel_rfl) (by kernel_rfl) (by kernel_rfl) (fun _ _ _ h => h) (Or.inr ⟨by rfl, rfl⟩) (by assumption) ?_
    simp only [Act.put, List.getElem_toArray, List.getElem_cons_succ, List.getElem_cons_zero, List.setIfInBounds_toArray, List.set_cons_zero, List.set_cons_succ]
    refine wpAnyH_take (i := 12) (v := ?v5) rfl (by kernel_rfl) (by kernel_rfl) (by kernel_rfl) (fun _ _ _ h => h) (Or.inl ⟨by rfl, ?y5⟩) (by assumption) ?r5
    case y5 =>
      intro wq hSw
      clear hSw
      go_simp
      with_reducible rfl
    simp only [Act.put, List.getElem_toArray, List.getElem_cons_succ, List.getElem_cons_zero, List.setIfInBounds_toArray, List.set_cons_zero, List.set_cons_succ]
    refine wpAnyH_done (by kernel_rfl) ?_ _
    have q4 := hHeld.cell E4.out (fun h => h)
    have kf := hHeld
    have KF := Lib.hid kf
    clear hHeld kf
    go_wp2_with fail
    go_ret
    have kV : Kp (fun k => k = V.b) w _ := K1.out.trans KF.out fun _ (h : False) => h.elim
    refine ⟨rfl, V.vr, ?_, kV.mono fun k hk => .inl (.inl hk), fun k hk => .inl hk⟩
    rw [HST.out]
    refine HN.out.build (kV.mono fun k hk => .inl (.inl hk)) V.vr rfl rfl rfl (by rw [← HNN.out]; exact KF.out.heap O1.out (fun h => h)) (fun i m l a hm hl ha => HN.out.mir_keep kV (fun k hk => .inl hk) hm hl ha (HN.out.b_mir (List.mem_of_getElem? hm))) ?_ (by have := askS_ok HN.out.ok now mir hs (by rw [← HNN.out]; exact hn); rwa [HST.out] at this)
    exact kV.own HN.out.rep fun k hk e => HN.out.b_rep (by rw [hk, e])
  · have h1 : (ns : Int) ≤ mir := by omega
    clear hfar
    refine wp_region_held_drew (S := Kp (fun _ => False) w1) (by kernel_rfl) (Kp.drew _ _) (fun hHeld => ?_)
    refine wpAnyH_take (i := 0) (v := ?v6) rfl (by kernel_rfl) (by kernel_rfl) (by kernel_rfl) (fun _ _ _ h => h) (Or.inl ⟨by rfl, ?y6⟩) (by assumption) ?r6
    case y6 =>
      intro wq hSw
      clear hSw
      go_simp
      with_reducible rfl
    simp only [Act.put, List.getElem_toArray, List.getElem_cons_succ, List.getElem_cons_zero, List.setIfInBounds_toArray, List.set_cons_zero, List.set_cons_succ]
    refine wpAnyH_take (i := 1) (v := ?v7) rfl (by kernel_rfl) (by kernel_rfl) (by kernel_rfl) (fun _ _ _ h => h) (Or.inl ⟨by rfl, ?y7⟩) (by assumption) ?r7
    case y7 =>
      intro wq hSw
      have q0 := hSw.cell B0.out (fun h => h)
      clear hSw
      go_simp
      with_reducible rfl
    simp only [Act.put, List.getElem_toArray, List.getElem_cons_succ, List.getElem_cons_zero, List.setIfInBounds_toArray, List.set_cons_zero, List.set_cons_succ]
    refine wpAnyH_take (i := 2) (v := ?v8) rfl (by kernel_rfl) (by kernel_rfl) (by kernel_rfl) (fun _ _ _ h => h) (Or.inl ⟨by rfl, ?y8⟩) (by assumption) ?r8
    case y8 =>
      intro wq hSw
      clear hSw
      go_simp
      with_reducible rfl
    simp only [Act.put, List.getElem_toArray, List.getElem_cons_succ, List.getElem_cons_zero, List.setIfInBounds_toArray, List.set_cons_zero, List.set_cons_succ]
    refine wpAnyH_take (i := 3) (v := ?v9) rfl (by kernel_rfl) (by kernel_rfl) (by kernel_rfl) (fun _ _ _ h => h) (Or.inl ⟨by rfl, ?y9⟩) (by assumption) ?r9
    case y9 =>
      intro wq hSw
      clear hSw
      go_simp
      with_reducible rfl
    simp only [Act.put, List.getElem_toArray, List.getElem_cons_succ, List.getElem_cons_zero, List.setIfInBounds_toArray, List.set_cons_zero, List.set_cons_succ]
    refine wpAnyH_take (i := 4) (v := ?v10) rfl (by kernel_rfl) (by kernel_rfl) (by kernel_rfl) (fun _ _ _ h => h) (Or.inl ⟨by rfl, ?y10⟩) (by assumption) ?r10
    case y10 =>
      intro wq hSw
      clear hSw
      go_simp
      with_reducible rfl
    simp only [Act.put, List.getElem_toArray, List.getElem_cons_succ, List.getElem_cons_zero, List.setIfInBounds_toArray, List.set_cons_zero, List.set_cons_succ]
    refine wpAnyH_take (i := 5) (v := ?v11) rfl (by kernel_rfl) (by kernel_rfl) (by kernel_rfl) (fun _ _ _ h => h) (Or.inl ⟨by rfl, ?y11⟩) (by assumption) ?r11
    case y11 =>
      intro wq hSw
      have q0 := hSw.cell B0.out (fun h => h)
      clear hSw
      go_simp
      with_reducible rfl
    simp only [Act.put, List.getElem_toArray, List.getElem_cons_succ, List.getElem_cons_zero, List.setIfInBounds_toArray, List.set_cons_zero, List.set_cons_succ]
    refine wpAnyH_take (i := 6) (v := ?v12) rfl (by kernel_rfl) (by kernel_rfl) (by kernel_rfl) (fun _ _ _ h => h) (Or.inl ⟨by rfl, ?y12⟩) (by assumption) ?r12
    case y12 =>
      intro wq hSw
      clear hSw
      go_simp
      with_reducible rfl
    simp only [Act.put, List.getElem_toArray, List.getElem_cons_succ, List.getElem_cons_zero, List.setIfInBounds_toArray, List.set_cons_zero, List.set_cons_succ]
    refine wpAnyH_take (i := 7) (v := ?v13) rfl (by kernel_rfl) (by kernel_rfl) (by kernel_rfl) (fun _ _ _ h => h) (Or.inl ⟨by rfl, ?y13⟩) (by assumption) ?r13
    case y13 =>
      intro wq hSw
      clear hSw
      go_simp
      with_reducible rfl
    simp only [Act.put, List.getElem_toArray, List.getElem_cons_succ, List.getElem_cons_zero, List.setIfInBounds_toArray, List.set_cons_zero, List.set_cons_succ]
    refine wpAnyH_take (i := 8) (v := ?v14) rfl (by kernel_rfl) (by kernel_rfl) (by kernel_rfl) (fun _ _ _ h => h) (Or.inl ⟨by rfl, ?y14⟩) (by assumption) ?r14
    case y14 =>
      intro wq hSw
      clear hSw
      go_simp
      with_reducible rfl
    simp only [Act.put, List.getElem_toArray, List.getElem_cons_succ, List.getElem_cons_zero, List.setIfInBounds_toArray, List.set_cons_zero, List.set_cons_succ]
    refine wpAnyH_take (i := 9) (v := ?v15) rfl (by kernel_rfl) (by kernel_rfl) (by kernel_rfl) (fun _ _ _ h => h) (Or.inl ⟨by rfl, ?y15⟩) (by assumption) ?r15
    case y15 =>
      intro wq hSw
      have q0 := hSw.cell E3.out (fun h => h)
      clear hSw
      go_simp
      with_reducible rfl
    simp only [Act.put, List.getElem_toArray, List.getElem_cons_succ, List.getElem_cons_zero, List.setIfInBounds_toArray, List.set_cons_zero, List.set_cons_succ]
    refine wpAnyH_take (i := 10) (v := ?v16) rfl (by kernel_rfl) (by kernel_rfl) (by kernel_rfl) (fun _ _ _ h => h) (Or.inl ⟨by rfl, ?y16⟩) (by assumption) ?r16
    case y16 =>
      intro wq hSw
      clear hSw
      go_simp
      with_reducible rfl
    simp only [Act.put, List.getElem_toArray, List.getElem_cons_succ, List.getElem_cons_zero, List.setIfInBounds_toArray, List.set_cons_zero, List.set_cons_succ]
    refine wpAnyH_take (i := 11) (v := ?v17) rfl (by kernel_rfl) (by kernel_rfl) (by kernel_rfl) (fun _ _ _ h => h) (Or.inl ⟨by rfl, ?y17⟩) (by assumption) ?r17
    case y17 =>
      intro wq hSw
      clear hSw
      go_simp
      with_reducible rfl
    simp only [Act.put, List.getElem_toArray, List.getElem_cons_succ, List.getElem_cons_zero, List.setIfInBounds_toArray, List.set_cons_zero, List.set_cons_succ]
    refine wpAnyH_take (i := 12) (v := ?v18) rfl (by kernel_rfl) (by kernel_rfl) (by kernel_rfl) (fun _ _ _ h => h) (Or.inl ⟨by rfl, ?y18⟩) (by assumption) ?r18
    case y18 =>
      intro wq hSw
      clear hSw
      go_simp
      with_reducible rfl
    simp only [Act.put, List.getElem_toArray, List.getElem_cons_succ, List.getElem_cons_zero, List.setIfInBounds_toArray, List.set_cons_zero, List.set_cons_succ]
    refine wpAnyH_done (by kernel_rfl) ?_ _
    have q4 := hHeld.cell E4.out (fun h => h)
    have kf := hHeld
    have KF := Lib.hid kf
    clear hHeld kf
    go_wp2_with fail
    go_ret
    have kV : Kp (fun k => k = V.b) w _ := K1.out.trans KF.out fun _ (h : False) => h.elim
    refine ⟨rfl, V.vr, ?_, kV.mono fun k hk => .inl (.inl hk), fun k hk => .inl hk⟩
    rw [HST.out]
    refine HN.out.build (kV.mono fun k hk => .inl (.inl hk)) V.vr rfl rfl rfl (by rw [← HNN.out]; exact KF.out.heap O1.out (fun h => h)) (fun i m l a hm hl ha => HN.out.mir_keep kV (fun k hk => .inl hk) hm hl ha (HN.out.b_mir (List.mem_of_getElem? hm))) ?_ (by have := askS_ok HN.out.ok now mir hs (by rw [← HNN.out]; exact hn); rwa [HST.out] at this)
    exact kV.own HN.out.rep fun k hk e => HN.out.b_rep (by rw [hk, e])

end Go.Proofs.Ytlkamfmepjddkaa
