/- Walk: the next reply of a net. -/
import Derived.Test.YtlkamfmepjddkaaWb
import Derived.Test.YtlkamfmepjddkaaN5
import Derived.Deep.DeepCutAuto
set_option linter.unusedSimpArgs false
set_option linter.unusedVariables false
namespace Go.Proofs.Ytlkamfmepjddkaa
open Go.RowKit Go.Lib Go.Maps

theorem results_rowtmp {P : Program} {fn : Func} {p u : Tmp} {ty : TypeId} (h : fn.results = #[.cell p ty, .tmp u]) (tmps : Array Value) (w : World) (g : Nat) (t : TypeId) (cs : Array Value) (fr : Nat × Nat) (d : TypeDesc)
    (hp : tmps.getD p undef = .pointer (some ⟨g, 0, none⟩)) (hg : w.heap[g]? = some (.cells cs t fr)) (hu : P.underlying ty = some d) (hd : (match d with | .struct _ | .array _ _ => true | _ => false) = true)
    (hi : (P.info? ty).map (·.size) = some cs.size) (v : Value) (hv : tmps.getD u undef = v) : (results fn tmps).run P w = .ok (.tuple #[.agg cs, v]) w := by
  have hp' : tmps[p]?.getD undef = .pointer (some ⟨g, 0, none⟩) := by simpa using hp
  have hv' : tmps[u]?.getD undef = v := by simpa using hv
  simp [results, h, hp', hv', asAddr, run_loadVar_row w g t ty cs fr d hg hu hd hi]

theorem nextS_ok {st : NS} (h : NOk st) : NOk (nextS st) :=
  ⟨h.hp, h.ho, h.lp, h.lo, h.la, h.ls, h.hs, h.ha, h.hn, Nat.le_trans (List.length_eraseIdx_le _ _) h.lr⟩

def RNextPost (w : World) (B : Nat) (V : NV) (st : NS) (e : Ending) (w' : World) : Prop := AskPost w B V (nextS st) (.tuple #[rpV (nextR st), .bool (nextB st)]) e w'

set_option maxRecDepth 100000 in
set_option maxHeartbeats 4000000 in
theorem next_real {w : World} {B : Nat} {V : NV} {st : NS} (h : NetP w B V st) : Calls Try.prog 17 #[.pointer (some ⟨V.b, 0, none⟩)] w (RNextPost w B V st) := by
  obtain ⟨w0, hw0⟩ : ∃ w0, w0 = w.alloc (.cells #[.int .i64 0, .int .i64 0, .int .i64 0, .string ⟨#[]⟩] 50) := ⟨_, rfl⟩
  have k0 : Kp (fun _ => False) w w0 := by rw [hw0]; exact Kp.alloc _ _ _
  have hR : w0.heap[w.heap.size]? = some (.cells #[.int .i64 0, .int .i64 0, .int .i64 0, .string ⟨#[]⟩] 50 (0, 0)) := by rw [hw0]; exact heap_alloc_new w _
  have s0 : w0.heap.size = w.heap.size + 1 := by rw [hw0]; simp
  have K0 := Lib.hid k0
  have HR := Lib.hid hR
  have H := Lib.hid h
  have h0 := h.keep0 k0
  have H0 := Lib.hid h0
  obtain ⟨nr, hnr⟩ : ∃ nr, nr = st.replies.length := ⟨_, rfl⟩
  obtain ⟨sp, cap, hv, _, _, hsrc, hspin⟩ := Src.of_own h0.rep
  obtain ⟨c0, c1, c2, c3, c4, c5, cf⟩ := obj_cells h0.obj
  have HV := Lib.hid hv
  rw [hv, ← hnr] at c5
  have C5 := Lib.hid c5
  have HNR := Lib.hid hnr
  have HSRC := Lib.hid hsrc
  have hrl : nr ≤ 200000 := by rw [hnr]; have h1 := h.ok.lr; have h2 := h.ok.hn; omega
  have zc := rp4 (m := ⟨0, 0, 0, ⟨#[]⟩⟩) hR
  have ZC := Lib.hid zc
  clear hR k0 h0 c0 c1 c2 c3 c4 hv hnr hsrc zc cf c5 h hspin
  go_enter Try.func17, Try.ntmps17
  go_wp2_with fail
  rw [← hw0]
  clear hw0
  refine (waiting_any H0.out).mono ?_
  rintro e w' ⟨rfl, rfl⟩
  rw [← HNR.out]
  by_cases hz : nr = 0
  · have hzi : (nr : Int) = 0 := by omega
    obtain ⟨z0, z1, z2, z3, zf⟩ := ZC.out
    have hemp : st.replies = [] := List.length_eq_zero_iff.1 (by rw [← HNR.out]; exact hz)
    have HEMP := Lib.hid hemp
    clear hemp
    rw [hzi]
    clear hzi
    subst hz
    go_wp2_with fail
    have hrs := rp_store w0 w.heap.size ⟨0, 0, 0, ⟨#[]⟩⟩ ⟨0, 0, 0, ⟨#[]⟩⟩ HR.out
    have hnS : nextS st = st := by unfold nextS; rw [HEMP.out]; cases st; simp at HEMP; simp [kIdx, kAfter, HEMP.out]
    have hnR : nextR st = zeroR := by unfold nextR; rw [HEMP.out]; rfl
    have hnB : nextB st = false := by unfold nextB; rw [HEMP.out]; rfl
    have kE : Kp (fun _ => False) w _ := K0.out.old hrs.2 fun q hq => by omega
    refine bodyPost_ret (v := .tuple #[rpV zeroR, .bool false]) (results_rowtmp rfl _ _ w.heap.size 50 _ (0, 0) _ rfl hrs.1 Try.underlying50 rfl info50s _ rfl) rfl ?_
    unfold RNextPost
    rw [hnS, hnR, hnB]
    exact ⟨rfl, V.vr, H.out.keep0 kE, kE.zero, fun k hk => .inl hk⟩
  · have hzi : ¬ (nr : Int) = 0 := by omega
    obtain ⟨g, rfl, hbg, cur, hgg, hncap, hcapm, hcs, hcur⟩ : ∃ g, sp = some ⟨g, 0, none⟩ ∧ B ≤ g ∧ ∃ cur : Array Value, w0.heap[g]? = some (.cells cur 50 (0, 0)) ∧ nr ≤ cap ∧ cap ≤ maxLen ∧ cur.size = cap * 4 ∧ cur.toList.take (nr * 4) = rps st.replies := by
      rcases H0.out.rep.2 with ⟨_, e⟩ | ⟨g, cap', cur, e, hb, hg, hn, hm, hs, ht⟩
      · exact absurd (HNR.out.trans e) hz
      · rw [HV.out] at e
        cases e
        exact ⟨g, rfl, hb, cur, hg, by rw [HNR.out]; exact hn, hm, hs, by rw [HNR.out]; exact ht⟩
    have HBG := Lib.hid hbg
    have HG := Lib.hid hgg
    have HCAP := Lib.hid hncap
    have HCM := Lib.hid hcapm
    have HCS := Lib.hid hcs
    have HCUR := Lib.hid hcur
    clear hbg hgg hncap hcapm hcs hcur
    have hne : st.replies ≠ [] := fun e => hz (by rw [HNR.out, e]; rfl)
    obtain ⟨m, hm, hk, hfirst, _⟩ := kIdx_spec st.replies hne
    obtain ⟨kk, hkk⟩ : ∃ kk, kk = kIdx st.replies := ⟨_, rfl⟩
    rw [← hkk] at hm hk hfirst
    rw [← HNR.out] at hk
    have HM := Lib.hid hm
    have HF := Lib.hid hfirst
    have HKK := Lib.hid hkk
    have HNE := Lib.hid hne
    clear hm hfirst hkk hne
    have c5 := C5.out
    go_wp2_with fail
    clear c5
    have hs2 := HSRC.out
    rw [HNR.out]
    refine (minFunc_any _ cap st.replies w0 hs2 HNE.out (by rw [← HNR.out]; omega)).mono ?_
    rintro e w1 ⟨⟨m', hm', rfl⟩, k1⟩
    rw [← HKK.out, HM.out] at hm'
    cases hm'
    dsimp only
    unfold rpV
    have K1 := Lib.hid k1
    have HS1 := Lib.hid k1.size
    clear k1 hs2
    go_wp2_with fail
    obtain ⟨w2, hw2⟩ : ∃ w2, w2 = w1.alloc (.cells #[.int .i64 m.num, .int .i64 m.mir, .int .i64 m.at', .string m.b] 50) := ⟨_, rfl⟩
    have k2 : Kp (fun _ => False) w1 w2 := by rw [hw2]; exact Kp.alloc _ _ _
    have h4 : w2.heap[w1.heap.size]? = some (.cells #[.int .i64 m.num, .int .i64 m.mir, .int .i64 m.at', .string m.b] 50 (0, 0)) := by rw [hw2]; exact heap_alloc_new w1 _
    have K02 := Lib.hid ((K1.out.trans k2 fun _ h => h.elim) : Kp (fun _ => False) w0 w2)
    rw [← hw2]
    have H4 := Lib.hid h4
    obtain ⟨d0, d1, d2, d3, df⟩ := rp4 h4
    have D0 := Lib.hid d0
    have D1 := Lib.hid d1
    have D2 := Lib.hid d2
    have D3 := Lib.hid d3
    have c5 := K02.out.cell C5.out (fun h => h)
    have F5 := Lib.hid c5
    clear hw2 k2 h4 d0 d1 d2 d3 df c5 K1
    refine wp_region_held_drew (S := Kp (fun _ => False) w2) (by kernel_rfl) (Kp.drew _ _) (fun hHeld => ?_)
    refine wpAnyH_take (i := 0) (v := ?v1) rfl (by kernel_rfl) (by kernel_rfl) (by kernel_rfl) (fun _ _ _ h => h) (Or.inl ⟨by rfl, ?y1⟩) (by assumption) ?r1
    case y1 =>
      intro wq hSw
      clear hSw
      go_simp
      with_reducible rfl
    simp only [Act.put, List.getElem_toArray, List.getElem_cons_succ, List.getElem_cons_zero, List.setIfInBounds_toArray, List.set_cons_zero, List.set_cons_succ]
    refine wpAnyH_take (i := 1) (v := ?v2) rfl (by kernel_rfl) (by kernel_rfl) (by kernel_rfl) (fun _ _ _ h => h) (Or.inl ⟨by rfl, ?y2⟩) (by assumption) ?r2
    case y2 =>
      intro wq hSw
      clear hSw
      go_simp
      with_reducible rfl
    simp only [Act.put, List.getElem_toArray, List.getElem_cons_succ, List.getElem_cons_zero, List.setIfInBounds_toArray, List.set_cons_zero, List.set_cons_succ]
    refine wpAnyH_take (i := 2) (v := ?v3) rfl (by kernel_rfl) (by kernel_rfl) (by kernel_rfl) (fun _ _ _ h => h) (Or.inl ⟨by rfl, ?y3⟩) (by assumption) ?r3
    case y3 =>
      intro wq hSw
      clear hSw
      go_simp
      with_reducible rfl
    simp only [Act.put, List.getElem_toArray, List.getElem_cons_succ, List.getElem_cons_zero, List.setIfInBounds_toArray, List.set_cons_zero, List.set_cons_succ]
    refine wpAnyH_take (i := 3) (v := ?v4) rfl (by kernel_rfl) (by kernel_rfl) (by kernel_rfl) (fun _ _ _ h => h) (Or.inl ⟨by rfl, ?y4⟩) (by assumption) ?r4
    case y4 =>
      intro wq hSw
      have q0 := hSw.cell F5.out (fun h => h)
      clear hSw
      go_simp
      with_reducible rfl
    simp only [Act.put, List.getElem_toArray, List.getElem_cons_succ, List.getElem_cons_zero, List.setIfInBounds_toArray, List.set_cons_zero, List.set_cons_succ]
    refine wpAnyH_take (i := 4) (v := ?v5) rfl (by kernel_rfl) (by kernel_rfl) (by kernel_rfl) (fun _ _ _ h => h) (Or.inl ⟨by rfl, ?y5⟩) (by assumption) ?r5
    case y5 =>
      intro wq hSw
      have q0 := hSw.cell D0.out (fun h => h)
      have q1 := hSw.cell D1.out (fun h => h)
      have q2 := hSw.cell D2.out (fun h => h)
      have q3 := hSw.cell D3.out (fun h => h)
      clear hSw
      go_simp
      with_reducible rfl
    simp only [Act.put, List.getElem_toArray, List.getElem_cons_succ, List.getElem_cons_zero, List.setIfInBounds_toArray, List.set_cons_zero, List.set_cons_succ]
    refine wpAnyH_ready (rs := [5]) (by kernel_rfl) (by simp) ?_
    refine AllReadyH.cons rfl (fun K hK => ?_) AllReadyH.nil
    rw [if_pos (by rfl)]
    go_simp
    rw [HNR.out]
    have hs4 := HSRC.out.keep0 (K02.out.trans hHeld fun _ (h : False) => h.elim)
    refine (index_any _ cap st.replies _ hs4 (by rw [← HNR.out]; omega) kk m HM.out (fun j x hj hx => (HF.out j x hj hx).1)).mono ?_
    rintro e w3 ⟨rfl, k3⟩
    clear hs4
    dsimp only
    refine hK.out _ _ (hHeld.trans k3 fun _ (h : False) => h.elim) (fun hHeld => ?_)
    clear hK K
    refine wpAnyH_take (i := 6) (v := ?v6) rfl (by kernel_rfl) (by kernel_rfl) (by kernel_rfl) (fun _ _ _ h => h) (Or.inl ⟨by rfl, ?y6⟩) (by assumption) ?r6
    case y6 =>
      intro wq hSw
      clear hSw
      go_simp
      with_reducible rfl
    simp only [Act.put, List.getElem_toArray, List.getElem_cons_succ, List.getElem_cons_zero, List.setIfInBounds_toArray, List.set_cons_zero, List.set_cons_succ]
    refine wpAnyH_done (by kernel_rfl) ?_ _
    have kf := hHeld
    have K23 := Lib.hid kf
    clear hHeld kf
    have K03 := Lib.hid (K02.out.trans K23.out fun _ (h : False) => h.elim)
    have g5 := K03.out.cell C5.out (fun h => h)
    have hadd : IntKind.i64.wrap ((kk : Int) + 1) = (kk : Int) + 1 := IntWalk.i64_in _ (by omega)
    go_wp2_with fail
    clear g5
    have hg3 := K03.out.heap HG.out (fun h => h)
    refine (delete_any w3 B g nr cap kk cur st.replies HBG.out hg3 HCS.out HNR.out.symm HCUR.out HCAP.out HCM.out hk).mono ?_
    rintro e w4 ⟨rfl, hown, k4⟩
    have K34 := Lib.hid k4
    have OWN := Lib.hid hown
    have hbg : V.b ≠ g := fun e => H0.out.b_rep (by rw [HV.out, e]; rfl)
    have k04 : Kp (fun q => q = g) w0 w4 := K03.out.zero.trans k4 fun _ h => .inl h
    have KT := Lib.hid (K0.out.zero.trans k04 fun _ h => .inl h : Kp (fun q => q = g) w w4)
    have ho4 := k04.heap H0.out.obj hbg
    have hf4 : w4.frozen? ⟨V.b, 5, none⟩ = false := frozen_of_row _ _ _ _ _ ho4
    have hgl : g < w.heap.size := (ownsRow_block H.out.rep (k := g) (by rw [HV.out]; rfl)).2.1
    have hbl := H.out.lt
    have hR4 := k04.heap HR.out (by omega)
    have hs01 := K02.out.size
    have hs02 : w0.heap.size ≤ w1.heap.size := HS1.out
    have HB5 := Lib.hid hf4
    have HO4 := Lib.hid ho4
    have HR4 := Lib.hid hR4
    have HLT := Lib.hid (And.intro hgl (And.intro hbl (And.intro s0 hs02)))
    have HBG2 := Lib.hid hbg
    have KX := Lib.hid (K23.out.zero.trans k4 fun _ h => .inl h : Kp (fun q => q = g) w2 w4)
    clear hown k4 hbg k04 ho4 hgl hbl hR4 hs01 hs02 hf4
    have hf4 := HB5.out
    have hH4 := KX.out.heap H4.out (by have := HLT.out; omega)
    obtain ⟨e0, e1, e2, e3, ef⟩ := rp4 hH4
    obtain ⟨z0, z1, z2, z3, zf⟩ := rp4 (m := ⟨0, 0, 0, ⟨#[]⟩⟩) HR4.out
    obtain ⟨vr', hvr'⟩ : ∃ v, v = Value.slice (some ⟨g, 0, none⟩) (nr - 1) cap := ⟨_, rfl⟩
    have HVR := Lib.hid hvr'
    have o5 : w4.cell? ⟨V.b, 5, none⟩ = some (.slice (some ⟨g, 0, none⟩) st.replies.length cap) := by rw [← HV.out]; exact cell_of_row _ _ 5 _ _ _ HO4.out
    clear hvr' ef hH4
    go_wp2_with fail
    rw [← HVR.out]
    have hl := HLT.out
    have ho5 : (w4.setCell ⟨V.b, 5, none⟩ vr').heap[V.b]? = some (.cells #[V.vp, V.vo, V.vm, V.vi, .int .i64 (st.n : Int), vr'] 71 (0, 0)) := by
      rw [heap_setCell_same _ V.b 5 _ 71 _ HO4.out]
      rfl
    have k5 : Kp (fun q => q = V.b) w4 (w4.setCell ⟨V.b, 5, none⟩ vr') := Kp.setCell w4 (a := ⟨V.b, 5, none⟩) _ rfl
    have hR5 := k5.heap HR4.out (by omega)
    have hrs := rp_store _ w.heap.size m ⟨0, 0, 0, ⟨#[]⟩⟩ hR5
    obtain ⟨hr1, hr2⟩ := hrs
    refine bodyPost_ret (v := .tuple #[rpV m, .bool true]) (results_rowtmp rfl _ _ w.heap.size 50 _ (0, 0) _ rfl hr1 Try.underlying50 rfl info50s _ rfl) rfl ?_
    generalize ((((w4.setCell ⟨V.b, 5, none⟩ vr').setCell ⟨w.heap.size, 0, none⟩ (.int .i64 m.num)).setCell ⟨w.heap.size, 1, none⟩ (.int .i64 m.mir)).setCell ⟨w.heap.size, 2, none⟩ (.int .i64 m.at')).setCell ⟨w.heap.size, 3, none⟩ (.string m.b) = wE at hr2 ⊢
    generalize w4.setCell ⟨V.b, 5, none⟩ vr' = w5 at k5 hr2 ho5
    clear hr1 hR5
    have kE : Kp (fun q => q = g ∨ q = V.b) w wE := ((KT.out.mono fun q hq => .inl (.inl hq) : Kp (fun q => q = g ∨ q = V.b) w w4).trans k5 fun q hq => .inl (.inr hq)).trans hr2 fun q hq => .inr (by omega)
    have hvo : V.vr.ownBlock = some g := by rw [HV.out]; rfl
    have hFf : ∀ q, (q = g ∨ q = V.b) → V.foot q := fun q hq => by
      rcases hq with rfl | rfl
      · exact .inr (.inl hvo)
      · exact .inl rfl
    have hnS : (nextS st).replies = st.replies.eraseIdx kk := by unfold nextS; rw [HKK.out]
    have hnl : (st.replies.eraseIdx kk).length = nr - 1 := by rw [List.length_eraseIdx, ← HNR.out, if_pos hk]
    have hnR : nextR st = m := by unfold nextR; rw [← HKK.out, HM.out]
    have hnB : nextB st = true := by unfold nextB; have := HNE.out; cases h : st.replies <;> simp_all
    unfold RNextPost
    rw [hnR, hnB]
    refine ⟨rfl, vr', ?_, kE.mono fun q hq => .inl (hFf q hq), fun k hk => .inl ?_⟩
    · refine H.out.build (kE.mono fun q hq => .inl (hFf q hq)) vr' rfl rfl rfl (show wE.heap[V.b]? = some (.cells #[V.vp, V.vo, V.vm, V.vi, .int .i64 (st.n : Int), vr'] 71 (0, 0)) from hr2.heap ho5 (by omega)) (fun i m' l a hm hl' ha => H.out.mir_keep kE hFf hm hl' ha ?_) ?_ (nextS_ok H.out.ok)
      · rintro (e | e)
        · exact H.out.rep_mir (List.mem_of_getElem? hm) (by rw [hvo, e])
        · exact H.out.b_mir (List.mem_of_getElem? hm) e
      · rw [hnS, hnl, HVR.out]
        exact hr2.own (k5.own OWN.out fun k e hq => HBG2.out (by cases e; exact hq.symm)) fun k e hq => by have e' : some g = some k := e; cases e'; omega
    · rw [HVR.out] at hk
      rw [hvo]
      exact hk

end Go.Proofs.Ytlkamfmepjddkaa
