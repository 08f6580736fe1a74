/- Walk: the next reply of the model. -/
import Derived.Test.YtlkamfmepjddkaaWd
import Derived.Deep.DeepCutAuto
set_option linter.unusedSimpArgs false
set_option linter.unusedVariables false
namespace Go.Proofs.Ytlkamfmepjddkaa
open Go.RowKit Go.Lib Go.Maps

def RNPost (w : World) (B : Nat) (V : RV) (st : NS) (e : Ending) (w' : World) : Prop := RAskPost w B V (nextS st) (.tuple #[rpV (nextR st), .bool (nextB st)]) e w'

def NxRel (w0 : World) (l : List Rp) (i s4 : Value) (wr : World) : Prop := ∃ j : Nat, i = .int .i64 (j : Int) ∧ 1 ≤ j ∧ j ≤ l.length ∧ s4 = .int .i64 (kAfter l j : Int) ∧ Kp (fun _ => False) w0 wr

theorem rps_one (l : List Rp) : ∀ v ∈ rps l, v.oneCell' = true := by
  intro v hv
  simp only [rps, List.mem_flatMap, rpCells] at hv
  obtain ⟨r, _, hv⟩ := hv
  simp at hv
  rcases hv with rfl | rfl | rfl | rfl <;> rfl
theorem rps_split (l : List Rp) (k : Nat) : rps l = rps (l.take k) ++ rps (l.drop k) := by rw [← rps_append, List.take_append_drop]
theorem range_take {w : World} {g : Nat} {l : List Rp} (h : w.rangeAt g 0 (rps l)) (k : Nat) : w.rangeAt g 0 (rps (l.take k)) := by
  intro j v hv
  refine h j v ?_
  have hj := (List.getElem?_eq_some_iff.1 hv).1
  rw [rps_split l k, List.getElem?_append_left hj]
  exact hv
theorem range_drop {w : World} {g : Nat} {l : List Rp} (h : w.rangeAt g 0 (rps l)) (k : Nat) (hk : k ≤ l.length) : w.rangeAt g (k * 4) (rps (l.drop k)) := by
  intro j v hv
  have := h (k * 4 + j) v (by
    have h1 : (rps (l.take k)).length = k * 4 := by rw [rps_len, List.length_take]; omega
    rw [rps_split l k, List.getElem?_append_right (by omega), h1, Nat.add_sub_cancel_left]
    exact hv)
  rwa [Nat.zero_add] at this
theorem own0 (w : World) (B : Nat) (hB : B ≤ w.heap.size) : (w.alloc (.cells #[] 50)).ownsRow B 50 4 (.slice (some ⟨w.heap.size, 0, none⟩) 0 0) 0 [] :=
  ⟨rfl, .inr ⟨w.heap.size, 0, #[], rfl, hB, heap_alloc_new w _, Nat.le_refl _, by unfold maxLen; omega, rfl, rfl⟩⟩
theorem own_low {w : World} {B B' : Nat} {e : TypeId} {sz n : Nat} {v : Value} {xs : List Value} (h : w.ownsRow B e sz v n xs) (hB : B' ≤ B) : w.ownsRow B' e sz v n xs := by
  refine ⟨h.1, ?_⟩
  rcases h.2 with h | ⟨g, cap, cur, h1, h2, h3⟩
  · exact .inl h
  · exact .inr ⟨g, cap, cur, h1, Nat.le_trans hB h2, h3⟩

theorem kAfter_one (l : List Rp) : ((kAfter l 1 : Nat) : Int) = 0 := by
  unfold kAfter
  split
  · split <;> simp [kAfter]
  · simp [kAfter]
theorem kAfter_lt (l : List Rp) (h0 : l ≠ []) (i : Nat) (hi : i ≤ l.length) : kAfter l i < l.length := by
  obtain ⟨m, hm, _⟩ := kAfter_spec l h0 i hi
  exact (List.getElem?_eq_some_iff.1 hm).1

theorem slice_to (u : World) (g n cap k : Nat) (h : k ≤ cap) (hm : cap ≤ maxLen) : (Instr.slice 61 (.slice (some ⟨g, 0, none⟩) n cap) none (some (.int .i64 (k : Int))) none).run Try.prog u = .ok (.slice (some ⟨g, 0, none⟩) k cap) u := by
  have := run_slice61 u g n cap 0 k cap none (some (.int .i64 (k : Int))) none (by simp only [Instr.sliceBounds, Sem.run_bind, Result.andThen_ok, Sem.run_pure, if_true, bound_ok u k cap _ rfl h])
  rw [this]
  simp
theorem slice_on (u : World) (g n cap k : Nat) (h : k + 1 ≤ n) : (Instr.slice 61 (.slice (some ⟨g, 0, none⟩) n cap) (some (.int .i64 ((k : Int) + 1))) none none).run Try.prog u = .ok (.slice (if cap = k + 1 then some (⟨g, 0, none⟩ : Addr) else some ⟨g, (k + 1) * 4, none⟩) (n - (k + 1)) (cap - (k + 1))) u :=
  run_slice61 u g n cap (k + 1) n cap (some (.int .i64 ((k : Int) + 1))) none none (by simp only [Instr.sliceBounds, Sem.run_bind, Result.andThen_ok, Sem.run_pure, Option.isSome_none, Bool.false_eq_true, if_false, bound_ok u (k + 1) n ((k : Int) + 1) (by omega) (by omega)])

set_option maxRecDepth 100000 in
set_option maxHeartbeats 4000000 in
theorem rnext_real {w : World} {B : Nat} {V : RV} {st : NS} (h : RefP w B V st) : Calls Try.prog 24 #[.pointer (some ⟨V.b, 0, none⟩)] w (RNPost w B V st) := by
  obtain ⟨w0, hw0⟩ : ∃ w0, w0 = w.alloc (.cells #[.int .i64 0, .int .i64 0, .int .i64 0, .string ⟨#[]⟩] 50) := ⟨_, rfl⟩
  have k0 : Kp (fun _ => False) w w0 := by rw [hw0]; exact Kp.alloc _ _ _
  have hR : w0.heap[w.heap.size]? = some (.cells #[.int .i64 0, .int .i64 0, .int .i64 0, .string ⟨#[]⟩] 50 (0, 0)) := by rw [hw0]; exact heap_alloc_new w _
  have s0 : w0.heap.size = w.heap.size + 1 := by rw [hw0]; simp
  have K0 := Lib.hid k0
  have HR := Lib.hid hR
  have H := Lib.hid h
  have h0 := h.keep0 k0
  have H0 := Lib.hid h0
  obtain ⟨nr, hnr⟩ : ∃ nr, nr = st.replies.length := ⟨_, rfl⟩
  obtain ⟨sp, cap, hv, _, _, hsrc, hspin⟩ := Src.of_own h0.rep
  obtain ⟨c0, c1, c2, c3, c4, c5, cf⟩ := obj_cells h0.obj
  have HV := Lib.hid hv
  rw [hv, ← hnr] at c5
  have C5 := Lib.hid c5
  have HNR := Lib.hid hnr
  have HSRC := Lib.hid hsrc
  have hrl : nr ≤ 200000 := by rw [hnr]; have h1 := h.ok.lr; have h2 := h.ok.hn; omega
  have zc := rp4 (m := ⟨0, 0, 0, ⟨#[]⟩⟩) hR
  have ZC := Lib.hid zc
  have D5 : Hid (∀ o, (w.alloc o).cell? ⟨V.b, 5, none⟩ = some (.slice sp nr cap)) := Lib.hid fun o => (Kp.alloc (fun _ => False) w o).cell (by rw [hnr, ← hv]; exact (obj_cells h.obj).2.2.2.2.2.1) (fun h => h)
  clear hR k0 h0 c0 c1 c2 c3 c4 hv hnr hsrc zc cf h hspin
  by_cases hz : nr = 0
  · have hzi : (nr : Int) = 0 := by omega
    have hemp : st.replies = [] := List.length_eq_zero_iff.1 (by rw [← HNR.out]; exact hz)
    have HEMP := Lib.hid hemp
    clear hemp hzi c5
    subst hz
    have d5 := D5.out
    go_enter Try.func24, Try.ntmps24
    go_wp2_with fail
    have hk : Kp (fun _ => False) w (w.alloc (.cells #[.int .i64 0, .int .i64 0, .int .i64 0, .string ⟨#[]⟩] 50)) := Kp.alloc _ _ _
    have hnS : nextS st = st := by unfold nextS; rw [HEMP.out]; cases st; simp at HEMP; simp [kIdx, kAfter, HEMP.out]
    have hnR : nextR st = zeroR := by unfold nextR; rw [HEMP.out]; rfl
    have hnB : nextB st = false := by unfold nextB; rw [HEMP.out]; rfl
    refine bodyPost_ret (v := .tuple #[rpV zeroR, .bool false]) (results_rowtmp rfl _ _ w.heap.size 50 #[.int .i64 0, .int .i64 0, .int .i64 0, .string ⟨#[]⟩] (0, 0) _ rfl (heap_alloc_new w _) Try.underlying50 rfl info50s _ rfl) rfl ?_
    unfold RNPost
    rw [hnS, hnR, hnB]
    exact ⟨rfl, V.vr, H.out.keep0 hk, hk.zero, fun k hk => .inl hk⟩
  · have hzi : ¬ (nr : Int) = 0 := by omega
    obtain ⟨g, rfl, hbg, cur, hgg, hncap, hcapm, hcs, hcur⟩ : ∃ g, sp = some ⟨g, 0, none⟩ ∧ B ≤ g ∧ ∃ cur : Array Value, w0.heap[g]? = some (.cells cur 50 (0, 0)) ∧ nr ≤ cap ∧ cap ≤ maxLen ∧ cur.size = cap * 4 ∧ cur.toList.take (nr * 4) = rps st.replies := by
      rcases H0.out.rep.2 with ⟨_, e⟩ | ⟨g, cap', cur, e, hb, hg, hn, hm, hs, ht⟩
      · exact absurd (HNR.out.trans e) hz
      · rw [HV.out] at e
        cases e
        exact ⟨g, rfl, hb, cur, hg, by rw [HNR.out]; exact hn, hm, hs, by rw [HNR.out]; exact ht⟩
    have hrow : w0.rangeAt g 0 (rps st.replies) := by
      obtain ⟨g', o', e, hr⟩ := HSRC.out.2 (by rw [← HNR.out]; omega)
      cases e
      exact hr
    have HROW := Lib.hid hrow
    have HG := Lib.hid hgg
    have HCAP := Lib.hid hncap
    have HCM := Lib.hid hcapm
    have hne : st.replies ≠ [] := fun e => hz (by rw [HNR.out, e]; rfl)
    have HNE := Lib.hid hne
    obtain ⟨l, hl⟩ : ∃ l, l = st.replies := ⟨_, rfl⟩
    have HL := Lib.hid hl
    rw [← hl] at HROW HNR HNE
    have hgl : g < w.heap.size := (ownsRow_block H.out.rep (k := g) (by rw [HV.out]; rfl)).2.1
    have hvo : V.vr.ownBlock = some g := by rw [HV.out]; rfl
    have HVO := Lib.hid hvo
    clear hrow hgg hncap hcapm hcs hcur hne hl c5 hvo
    have d5 := D5.out
    go_enter Try.func24, Try.ntmps24
    go_wp2_with fail
    rw [← hw0]
    clear hw0 d5 D5
    go_loopw [5, 4] (fun i s4 wr => NxRel w0 l i s4 wr) (fun i _ _ => nr - (Go.RowKit.intOf i).toNat)
    case atStart => exact ⟨1, rfl, Nat.le_refl _, by have := HNR.out; omega, by rw [kAfter_one], Kp.refl _ _⟩
    case round =>
      obtain ⟨j, rfl, hj1, hj2, rfl, hkp⟩ := hrel
      rw [← HNR.out] at hj2
      obtain ⟨k, hk⟩ : ∃ k, k = kAfter l j := ⟨_, rfl⟩
      have hkl : k < nr := by rw [hk, HNR.out]; exact kAfter_lt l HNE.out j (by rw [← HNR.out]; exact hj2)
      rw [← hk]
      have HK := Lib.hid hk
      have HKP := Lib.hid hkp
      have C5r := Lib.hid (hkp.cell C5.out (fun h => h))
      have ROWr := Lib.hid (rangeAt_kp HROW.out hkp (fun h => h))
      clear hk hkp
      have k0 : (0 : Int) ≤ (k : Int) := by omega
      have k1 : (k : Int) < (nr : Int) := by omega
      have c5 := C5r.out
      obtain ⟨m, hm⟩ : ∃ m, l[k]? = some m := ⟨_, List.getElem?_eq_getElem (by rw [← HNR.out]; exact hkl)⟩
      have HM := Lib.hid hm
      clear hm
      by_cases hlt : j < nr
      · obtain ⟨x, hx⟩ : ∃ x, l[j]? = some x := ⟨_, List.getElem?_eq_getElem (by rw [← HNR.out]; exact hlt)⟩
        have HX := Lib.hid hx
        have j0 : (0 : Int) ≤ (j : Int) := by omega
        have j1 : (j : Int) < (nr : Int) := by omega
        obtain ⟨q0, q1, q2, q3⟩ := rp_cells ROWr.out hx
        simp only [Nat.zero_add] at q0 q1 q2 q3
        clear hx
        go_upto_region 8 with (fail)
        obtain ⟨w1, hw1⟩ : ∃ w1, w1 = wr.alloc (.cells #[.int .i64 x.num, .int .i64 x.mir, .int .i64 x.at', .string x.b] 50) := ⟨_, rfl⟩
        have K1 : Hid (Kp (fun _ => False) wr w1) := Lib.hid (by rw [hw1]; exact Kp.alloc _ _ _)
        have hA : w1.heap[wr.heap.size]? = some (.cells #[.int .i64 x.num, .int .i64 x.mir, .int .i64 x.at', .string x.b] 50 (0, 0)) := by rw [hw1]; exact heap_alloc_new wr _
        have HA := Lib.hid hA
        rw [← hw1]
        clear hw1 q0 q1 q2 q3 c5 hA
        have c5 := K1.out.cell C5r.out (fun h => h)
        obtain ⟨q0, q1, q2, q3⟩ := rp_cells (rangeAt_kp ROWr.out K1.out (fun h => h)) HM.out
        simp only [Nat.zero_add] at q0 q1 q2 q3
        go_upto_region 9 with (fail)
        obtain ⟨w2, hw2⟩ : ∃ w2, w2 = w1.alloc (.cells #[.int .i64 m.num, .int .i64 m.mir, .int .i64 m.at', .string m.b] 50) := ⟨_, rfl⟩
        have K2 : Hid (Kp (fun _ => False) w1 w2) := Lib.hid (by rw [hw2]; exact Kp.alloc _ _ _)
        have hB2 : w2.heap[w1.heap.size]? = some (.cells #[.int .i64 m.num, .int .i64 m.mir, .int .i64 m.at', .string m.b] 50 (0, 0)) := by rw [hw2]; exact heap_alloc_new w1 _
        obtain ⟨a0, _, a2, _, _⟩ := rp4 (K2.out.heap HA.out (fun h => h))
        obtain ⟨b0, _, b2, _, _⟩ := rp4 hB2
        rw [← hw2]
        clear hw2 q0 q1 q2 q3 c5 hB2
        have hstep : kAfter l (j + 1) = if lessR x m then j else k := by rw [HK.out]; exact kAfter_step HX.out (by rw [← HK.out]; exact HM.out)
        have HSTEP := Lib.hid hstep
        clear hstep
        have hwj : IntKind.i64.wrap ((j : Int) + 1) = (j : Int) + 1 := IntWalk.i64_in _ (by omega)
        have HKE := Lib.hid ((HKP.out.trans K1.out fun _ h => h.elim).trans K2.out fun _ h => h.elim)
        by_cases h1 : x.at' < m.at'
        · go_wp2_with fail
          go_roundw
          case rel => exact ⟨j + 1, by simp, by omega, by rw [← HNR.out]; omega, by rw [HSTEP.out, if_pos (by unfold lessR; simp [h1])], HKE.out⟩
          case measure => simp [Go.RowKit.intOf]; omega
        · by_cases h2 : x.at' = m.at'
          · by_cases h3 : x.num < m.num
            · have HL3 : Hid (lessR x m = true) := Lib.hid (by unfold lessR; simp [h2, h3])
              go_wp2_with fail
              go_roundw
              case rel => exact ⟨j + 1, by simp, by omega, by rw [← HNR.out]; omega, by rw [HSTEP.out, if_pos HL3.out], HKE.out⟩
              case measure => simp [Go.RowKit.intOf]; omega
            · have HL3 : Hid (lessR x m = false) := Lib.hid (by unfold lessR; simp [h2, h3])
              go_wp2_with fail
              go_roundw
              case rel => exact ⟨j + 1, by simp, by omega, by rw [← HNR.out]; omega, by rw [HSTEP.out, HL3.out]; rfl, HKE.out⟩
              case measure => simp [Go.RowKit.intOf]; omega
          · have HL3 : Hid (lessR x m = false) := Lib.hid (by unfold lessR; simp [h1, h2])
            go_wp2_with fail
            go_roundw
            case rel => exact ⟨j + 1, by simp, by omega, by rw [← HNR.out]; omega, by rw [HSTEP.out, HL3.out]; rfl, HKE.out⟩
            case measure => simp [Go.RowKit.intOf]; omega
      · have hjn : j = nr := by omega
        obtain ⟨q0, q1, q2, q3⟩ := rp_cells ROWr.out HM.out
        simp only [Nat.zero_add] at q0 q1 q2 q3
        go_upto_region 12 with (fail)
        obtain ⟨w2, hw2⟩ : ∃ w2, w2 = wr.alloc (.cells #[.int .i64 m.num, .int .i64 m.mir, .int .i64 m.at', .string m.b] 50) := ⟨_, rfl⟩
        have K2 : Hid (Kp (fun _ => False) wr w2) := Lib.hid (by rw [hw2]; exact Kp.alloc _ _ _)
        have h8 : w2.heap[wr.heap.size]? = some (.cells #[.int .i64 m.num, .int .i64 m.mir, .int .i64 m.at', .string m.b] 50 (0, 0)) := by rw [hw2]; exact heap_alloc_new wr _
        have H8 := Lib.hid h8
        rw [← hw2]
        clear hw2 q0 q1 q2 q3 c5 h8
        have F5 := Lib.hid (K2.out.cell C5r.out (fun h => h))
        have ROW2 := Lib.hid (rangeAt_kp ROWr.out K2.out (fun h => h))
        have hwk : IntKind.i64.wrap ((k : Int) + 1) = (k : Int) + 1 := IntWalk.i64_in _ (by omega)
        obtain ⟨dp, hdp⟩ : ∃ dp, dp = (if cap = k + 1 then some (⟨g, 0, none⟩ : Addr) else some ⟨g, (k + 1) * 4, none⟩) := ⟨_, rfl⟩
        have S1 := Lib.hid fun u : World => slice_to u g nr cap k (by have := HCAP.out; omega) HCM.out
        have S2 : Hid (∀ u : World, (Instr.slice 61 (.slice (some ⟨g, 0, none⟩) nr cap) (some (.int .i64 ((k : Int) + 1))) none none).run Try.prog u = .ok (.slice dp (nr - (k + 1)) (cap - (k + 1))) u) := Lib.hid fun u => by rw [hdp]; exact slice_on u g nr cap k (by omega)
        have HDP := Lib.hid hdp
        obtain ⟨i0, hi, hz0, hz1, hz2⟩ := info_parts info50
        have NSRC2 : Hid (∀ u : World, Kp (fun _ => False) w2 u → Src u 4 dp (nr - (k + 1)) (rps (l.drop (k + 1)))) := Lib.hid fun u hu =>
          ⟨by rw [rps_len, List.length_drop, ← HNR.out], fun hn => ⟨g, (k + 1) * 4, by rw [hdp, if_neg (by have := HCAP.out; omega)], range_drop (rangeAt_kp ROW2.out hu (fun h => h)) (k + 1) (by rw [← HNR.out]; omega)⟩⟩
        have NSRC1 : Hid (∀ u : World, Kp (fun _ => False) w2 u → Src u 4 (some ⟨g, 0, none⟩) k (rps (l.take k))) := Lib.hid fun u hu =>
          ⟨by rw [rps_len, List.length_take, ← HNR.out]; omega, fun hn => ⟨g, 0, rfl, range_take (rangeAt_kp ROW2.out hu (fun h => h)) k⟩⟩
        clear hdp
        refine wp_region_last (S := Kp (fun _ => False) w2) 19 (by kernel_rfl) (Kp.drew _ _) (fun hHeld => ?_)
        refine wpAnyL_take (i := 0) (v := ?v1) rfl (by kernel_rfl) (by kernel_rfl) (by kernel_rfl) (fun _ _ _ h => h) (Or.inl ⟨by rfl, ?y1⟩) (by assumption) ?r1
        case y1 =>
          intro wq hSw
          clear hSw
          go_simp
          with_reducible rfl
        simp only [Act.put, List.getElem_toArray, List.getElem_cons_succ, List.getElem_cons_zero, List.setIfInBounds_toArray, List.set_cons_zero, List.set_cons_succ]
        refine wpAnyL_take (i := 2) (v := ?v2) rfl (by kernel_rfl) (by kernel_rfl) (by kernel_rfl) (fun _ _ _ h => h) (Or.inl ⟨by rfl, ?y2⟩) (by assumption) ?r2
        case y2 =>
          intro wq hSw
          clear hSw
          go_simp
          with_reducible rfl
        simp only [Act.put, List.getElem_toArray, List.getElem_cons_succ, List.getElem_cons_zero, List.setIfInBounds_toArray, List.set_cons_zero, List.set_cons_succ]
        refine wpAnyL_take (i := 3) (v := ?v3) rfl (by kernel_rfl) (by kernel_rfl) (by kernel_rfl) (fun _ _ _ h => h) (Or.inl ⟨by rfl, ?y3⟩) (by assumption) ?r3
        case y3 =>
          intro wq hSw
          clear hSw
          go_simp
          with_reducible rfl
        simp only [Act.put, List.getElem_toArray, List.getElem_cons_succ, List.getElem_cons_zero, List.setIfInBounds_toArray, List.set_cons_zero, List.set_cons_succ]
        refine wpAnyL_take (i := 4) (v := ?v4) rfl (by kernel_rfl) (by kernel_rfl) (by kernel_rfl) (fun _ _ _ h => h) (Or.inl ⟨by rfl, ?y4⟩) (by assumption) ?r4
        case y4 =>
          intro wq hSw
          clear hSw
          go_simp
          with_reducible rfl
        simp only [Act.put, List.getElem_toArray, List.getElem_cons_succ, List.getElem_cons_zero, List.setIfInBounds_toArray, List.set_cons_zero, List.set_cons_succ]
        refine wpAnyL_take (i := 5) (v := ?v5) rfl (by kernel_rfl) (by kernel_rfl) (by kernel_rfl) (fun _ _ _ h => h) (Or.inl ⟨by rfl, ?y5⟩) (by assumption) ?r5
        case y5 =>
          intro wq hSw
          have q0 := hSw.cell F5.out (fun h => h)
          clear hSw
          go_simp
          with_reducible rfl
        simp only [Act.put, List.getElem_toArray, List.getElem_cons_succ, List.getElem_cons_zero, List.setIfInBounds_toArray, List.set_cons_zero, List.set_cons_succ]
        refine wpAnyL_take (i := 6) (v := ?v6) rfl (by kernel_rfl) (by kernel_rfl) (by kernel_rfl) (fun _ _ _ h => h) (Or.inl ⟨by rfl, ?y6⟩) (by assumption) ?r6
        case y6 =>
          intro wq hSw
          clear hSw
          go_simp
          with_reducible rfl
        simp only [Act.put, List.getElem_toArray, List.getElem_cons_succ, List.getElem_cons_zero, List.setIfInBounds_toArray, List.set_cons_zero, List.set_cons_succ]
        refine wpAnyL_take (i := 7) (v := _) rfl (by kernel_rfl) (by kernel_rfl) (by kernel_rfl) (fun _ _ _ h => h) (yields_slice (by rfl) 61 (.tmp 71) none (some (.tmp 72)) none rfl _ _ _ _ rfl rfl rfl rfl _ Try.underlying61 S1.out) (by assumption) ?_
        simp only [Act.put, List.getElem_toArray, List.getElem_cons_succ, List.getElem_cons_zero, List.setIfInBounds_toArray, List.set_cons_zero, List.set_cons_succ]
        refine wpAnyL_take (i := 9) (v := ?v7) rfl (by kernel_rfl) (by kernel_rfl) (by kernel_rfl) (fun _ _ _ h => h) (Or.inl ⟨by rfl, ?y7⟩) (by assumption) ?r7
        case y7 =>
          intro wq hSw
          clear hSw
          go_simp
          with_reducible rfl
        simp only [Act.put, List.getElem_toArray, List.getElem_cons_succ, List.getElem_cons_zero, List.setIfInBounds_toArray, List.set_cons_zero, List.set_cons_succ]
        refine wpAnyL_take (i := 10) (v := ?v8) rfl (by kernel_rfl) (by kernel_rfl) (by kernel_rfl) (fun _ _ _ h => h) (Or.inl ⟨by rfl, ?y8⟩) (by assumption) ?r8
        case y8 =>
          intro wq hSw
          clear hSw
          go_simp
          with_reducible rfl
        simp only [Act.put, List.getElem_toArray, List.getElem_cons_succ, List.getElem_cons_zero, List.setIfInBounds_toArray, List.set_cons_zero, List.set_cons_succ]
        refine wpAnyL_take (i := 11) (v := ?v9) rfl (by kernel_rfl) (by kernel_rfl) (by kernel_rfl) (fun _ _ _ h => h) (Or.inl ⟨by rfl, ?y9⟩) (by assumption) ?r9
        case y9 =>
          intro wq hSw
          clear hSw
          go_simp
          with_reducible rfl
        simp only [Act.put, List.getElem_toArray, List.getElem_cons_succ, List.getElem_cons_zero, List.setIfInBounds_toArray, List.set_cons_zero, List.set_cons_succ]
        refine wpAnyL_take (i := 12) (v := ?v10) rfl (by kernel_rfl) (by kernel_rfl) (by kernel_rfl) (fun _ _ _ h => h) (Or.inl ⟨by rfl, ?y10⟩) (by assumption) ?r10
        case y10 =>
          intro wq hSw
          have q0 := hSw.cell F5.out (fun h => h)
          clear hSw
          go_simp
          with_reducible rfl
        simp only [Act.put, List.getElem_toArray, List.getElem_cons_succ, List.getElem_cons_zero, List.setIfInBounds_toArray, List.set_cons_zero, List.set_cons_succ]
        refine wpAnyL_take (i := 13) (v := ?v11) rfl (by kernel_rfl) (by kernel_rfl) (by kernel_rfl) (fun _ _ _ h => h) (Or.inl ⟨by rfl, ?y11⟩) (by assumption) ?r11
        case y11 =>
          intro wq hSw
          clear hSw
          go_simp
          with_reducible rfl
        simp only [Act.put, List.getElem_toArray, List.getElem_cons_succ, List.getElem_cons_zero, List.setIfInBounds_toArray, List.set_cons_zero, List.set_cons_succ]
        refine wpAnyL_take (i := 14) (v := ?v12) rfl (by kernel_rfl) (by kernel_rfl) (by kernel_rfl) (fun _ _ _ h => h) (Or.inl ⟨by rfl, ?y12⟩) (by assumption) ?r12
        case y12 =>
          intro wq hSw
          clear hSw
          go_simp
          with_reducible rfl
        simp only [Act.put, List.getElem_toArray, List.getElem_cons_succ, List.getElem_cons_zero, List.setIfInBounds_toArray, List.set_cons_zero, List.set_cons_succ]
        refine wpAnyL_take (i := 15) (v := _) rfl (by kernel_rfl) (by kernel_rfl) (by kernel_rfl) (fun _ _ _ h => h) (yields_slice (by rfl) 61 (.tmp 78) (some (.tmp 80)) none none rfl _ _ _ _ rfl rfl rfl rfl _ Try.underlying61 S2.out) (by assumption) ?_
        simp only [Act.put, List.getElem_toArray, List.getElem_cons_succ, List.getElem_cons_zero, List.setIfInBounds_toArray, List.set_cons_zero, List.set_cons_succ]
        refine wpAnyL_one (i := 1) (by kernel_rfl) rfl (fun K hK => ?_)
        rw [if_pos (by rfl)]
        go_simp
        have OWN0 := Lib.hid (own0 w2 w2.heap.size (Nat.le_refl _))
        have OWN1 : Hid ((w2.alloc (.cells #[] 50)).drew.ownsRow w2.heap.size 50 4 (.slice (some ⟨w2.heap.size, 0, none⟩) 0 0) 0 []) := Lib.hid ((Kp.drew (fun _ => False) _).own OWN0.out fun _ _ h => h)
        refine hK.out _ _ (fun _ => (Kp.alloc (fun _ => False) w2 _).trans (Kp.drew (fun _ => False) _) fun _ (h : False) => h.elim) (fun hHeld => ?_)
        replace hHeld := hHeld (by decide)
        clear hK K
        refine wpAnyL_one (i := 8) (by kernel_rfl) rfl (fun K hK => ?_)
        have HH1 := Lib.hid hHeld
        rw [if_pos (by rfl)]
        refine wp_append_src _ (.tmp 67) (.tmp 73) 61 rfl w2.heap.size 50 i0 (.agg #[.int .i64 0, .int .i64 0, .int .i64 0, .string emptyS]) 4 40 Try.underlying61 hi hz0 hz1 hz2 rfl (by decide) (.slice (some ⟨w2.heap.size, 0, none⟩) 0 0) 0 [] rfl OWN1.out (some ⟨g, 0, none⟩) k cap (rps (l.take k)) rfl (NSRC1.out _ HH1.out) (rps_one _) (by unfold maxLen; omega) (by omega) (by simp [World.drew]) ?_
        intro v5 w5 own5 grow5 loc5
        have K5 := Lib.hid (HH1.out.trans (Kp.grown (F := fun q => q = w2.heap.size) grow5 fun q hq => (Option.some.inj hq).symm) fun q hq => .inr (by omega))
        have OWN5 := Lib.hid own5
        have LOC5 := Lib.hid loc5
        clear own5 grow5 loc5
        refine hK.out _ _ (fun _ => K5.out) (fun hHeld => ?_)
        replace hHeld := hHeld (by decide)
        clear hK K
        refine wpAnyL_one (i := 16) (by kernel_rfl) rfl (fun K hK => ?_)
        rw [if_pos (by rfl)]
        refine wp_append_src _ (.tmp 74) (.tmp 81) 61 rfl w2.heap.size 50 i0 (.agg #[.int .i64 0, .int .i64 0, .int .i64 0, .string emptyS]) 4 40 Try.underlying61 hi hz0 hz1 hz2 rfl (by decide) v5 (0 + k) ([] ++ rps (l.take k)) rfl OWN5.out dp (nr - (k + 1)) (cap - (k + 1)) (rps (l.drop (k + 1))) rfl (NSRC2.out _ K5.out) (rps_one _) (by unfold maxLen; omega) (by omega) K5.out.size ?_
        intro v6 w6 own6 grow6 _loc6
        have hrow : [] ++ rps (l.take k) ++ rps (l.drop (k + 1)) = rps (l.eraseIdx k) := by rw [List.nil_append, ← rps_append, List.eraseIdx_eq_take_drop_succ]
        have hcnt : 0 + k + (nr - (k + 1)) = nr - 1 := by omega
        rw [hrow, hcnt] at own6
        obtain ⟨sp6, cap6, hv6, _, _, _, _⟩ := Src.of_own own6
        have OWN6 := Lib.hid own6
        have HV6 := Lib.hid hv6
        have hv5b : ∀ q, v5.ownBlock = some q → w2.heap.size ≤ q := fun q hq => (ownsRow_block OWN5.out hq).1
        have K6 := Lib.hid (K5.out.trans (Kp.grown (F := fun q => v5.ownBlock = some q) grow6 fun q hq => hq) fun q hq => .inr (hv5b q hq))
        rw [hv6]
        clear own6 grow6 _loc6 hv6 hv5b hrow hcnt
        refine hK.out _ _ (fun _ => K6.out) (fun hHeld => ?_)
        replace hHeld := hHeld (by decide)
        clear hK K
        refine wpAnyL_one (i := 17) (by kernel_rfl) rfl (fun K hK => ?_)
        rw [if_pos (by rfl)]
        go_simp
        refine hK.out _ _ (fun _ => hHeld) (fun hHeld => ?_)
        replace hHeld := hHeld (by decide)
        clear hK K
        refine wpAnyL_take (i := 18) (v := ?v13) rfl (by kernel_rfl) (by kernel_rfl) (by kernel_rfl) (fun _ _ _ h => h) (Or.inl ⟨by rfl, ?y13⟩) (by assumption) ?r13
        case y13 =>
          intro wq hSw
          clear hSw
          go_simp
          with_reducible rfl
        simp only [Act.put, List.getElem_toArray, List.getElem_cons_succ, List.getElem_cons_zero, List.setIfInBounds_toArray, List.set_cons_zero, List.set_cons_succ]
        refine wpAnyL_one (i := 19) (by kernel_rfl) rfl (fun K hK => ?_)
        have q5 := K6.out.cell F5.out (fun h => h)
        have qf := frozen_kp (i := 5) ((HKP.out.trans K2.out fun _ (h : False) => h.elim).trans K6.out fun _ (h : False) => h.elim) H0.out.obj (fun h => h)
        rw [if_pos (by rfl)]
        go_simp
        refine hK.out _ _ (fun h => absurd rfl h) (fun _ => ?_)
        clear hK K
        refine wpAnyL_done (by kernel_rfl) ?_ _
        try clear q5 qf
        have KA := Lib.hid ((HKP.out.trans K2.out fun _ (h : False) => h.elim).trans K6.out fun _ (h : False) => h.elim : Kp (fun _ => False) w0 w6)
        have hH6 := K6.out.heap H8.out (fun h => h)
        have hR6 := KA.out.heap HR.out (fun h => h)
        have HR6 := Lib.hid hR6
        have HO6 := Lib.hid (KA.out.heap H0.out.obj (fun h => h))
        obtain ⟨e0, e1, e2, e3, _⟩ := rp4 hH6
        obtain ⟨z0, z1, z2, z3, zf⟩ := rp4 (m := ⟨0, 0, 0, ⟨#[]⟩⟩) hR6
        clear hH6 hR6
        go_wp2_with fail
        have hlt := H.out.lt
        have hnV := H.out.b_rep
        obtain ⟨vr', hvr'⟩ : ∃ v, v = Value.slice sp6 (nr - 1) cap6 := ⟨_, rfl⟩
        have HVR : Hid (v6 = vr') := Lib.hid (by rw [HV6.out, hvr'])
        rw [← hvr']
        have ho5 : (w6.setCell ⟨V.b, 5, none⟩ vr').heap[V.b]? = some (.cells #[V.vp, V.vo, V.vs, V.va, .int .i64 (st.n : Int), vr'] 63 (0, 0)) := by
          rw [heap_setCell_same _ V.b 5 _ 63 _ HO6.out]
          rfl
        have k5 : Kp (fun q => q = V.b) w6 (w6.setCell ⟨V.b, 5, none⟩ vr') := Kp.setCell w6 (a := ⟨V.b, 5, none⟩) _ rfl
        have hR5 := k5.heap HR6.out (by omega)
        obtain ⟨hr1, hr2⟩ := rp_store _ w.heap.size m ⟨0, 0, 0, ⟨#[]⟩⟩ hR5
        refine bodyPost_ret (v := .tuple #[rpV m, .bool true]) (results_rowtmp rfl _ _ w.heap.size 50 _ (0, 0) _ rfl hr1 Try.underlying50 rfl info50s _ rfl) rfl ?_
        clear hvr' hr1
        generalize ((((w6.setCell ⟨V.b, 5, none⟩ vr').setCell ⟨w.heap.size, 0, none⟩ (.int .i64 m.num)).setCell ⟨w.heap.size, 1, none⟩ (.int .i64 m.mir)).setCell ⟨w.heap.size, 2, none⟩ (.int .i64 m.at')).setCell ⟨w.heap.size, 3, none⟩ (.string m.b) = wE at hr2 ⊢
        generalize w6.setCell ⟨V.b, 5, none⟩ vr' = w7 at k5 hr2 ho5 hR5
        have kE : Kp (fun q => q = V.b) w wE := ((((K0.out.trans KA.out fun _ h => h.elim).zero (F := fun q => q = V.b)).trans k5 fun q hq => .inl hq)).trans hr2 fun q hq => .inr (by omega)
        have hFf : ∀ q, q = V.b → V.foot q := fun q hq => .inl hq
        have hkI : kIdx st.replies = k := by rw [← HL.out, HK.out, hjn, HNR.out]; rfl
        have hnS : (nextS st).replies = l.eraseIdx k := by unfold nextS; rw [hkI, HL.out]
        have hnl : (l.eraseIdx k).length = nr - 1 := by rw [List.length_eraseIdx, ← HNR.out, if_pos hkl]
        have hnR : nextR st = m := by unfold nextR; rw [hkI, ← HL.out, HM.out]
        have hnB : nextB st = true := by unfold nextB; have := HNE.out; rw [HL.out] at this; cases h : st.replies <;> simp_all
        have hsz : w.heap.size + 1 ≤ w6.heap.size := by have := KA.out.size; omega
        have hsz2 : w.heap.size + 1 ≤ w2.heap.size := by have := (HKP.out.trans K2.out fun _ (h : False) => h.elim : Kp (fun _ => False) w0 w2).size; omega
        have hloc : ∀ q, v6.ownBlock = some q → w2.heap.size ≤ q := fun q hq => (ownsRow_block OWN6.out hq).1
        unfold RNPost
        rw [hnR, hnB]
        refine ⟨rfl, vr', ?_, kE.mono fun q hq => .inl (hFf q hq), fun q hq => .inr ?_⟩
        · refine H.out.build (kE.mono fun q hq => .inl (hFf q hq)) vr' rfl rfl rfl (show wE.heap[V.b]? = some (.cells #[V.vp, V.vo, V.vs, V.va, .int .i64 (st.n : Int), vr'] 63 (0, 0)) from hr2.heap ho5 (by omega)) (show wE.ownsRow B 3 1 V.va st.asked.length (askV st.asked) from kE.own H.out.ask fun q hq e => H.out.b_ask (by rw [hq, e])) ?_ (nextS_ok H.out.ok)
          rw [hnS, hnl, ← HVR.out]
          refine own_low (hr2.own (k5.own OWN6.out fun q hq e => ?_) fun q hq e => ?_) (by have := H.out.hB; omega)
          · have := hloc q hq; omega
          · have := hloc q hq; omega
        · rw [← HVR.out] at hq
          have := hloc q hq
          omega

end Go.Proofs.Ytlkamfmepjddkaa
