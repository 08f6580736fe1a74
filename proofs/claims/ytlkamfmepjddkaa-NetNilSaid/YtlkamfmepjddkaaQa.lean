/- Walk: NetNil. -/
import Derived.Test.YtlkamfmepjddkaaQ8
import Derived.Test.YtlkamfmepjddkaaWj
set_option linter.unusedSimpArgs false
set_option linter.unusedVariables false
namespace Go.Proofs.Ytlkamfmepjddkaa
open Go.RowKit Go.Lib Go.Maps

theorem init0_ok : NOk (initS [] [] []) := init_ok [] [] [] (by simp)
theorem zeroNet (w : World) : NetP (w.alloc (.cells #[.slice none 0 0, .slice none 0 0, .map none, .slice none 0 0, .int .i64 0, .slice none 0 0] 71)) w.heap.size ⟨w.heap.size, .slice none 0 0, .slice none 0 0, .map none, .slice none 0 0, .slice none 0 0, []⟩ (initS [] [] []) where
  hB := Nat.le_refl _
  obj := heap_alloc_new w _
  pk := ⟨rfl, .inl ⟨rfl, rfl⟩⟩
  old := ⟨rfl, .inl ⟨rfl, rfl⟩⟩
  mp := .inl ⟨rfl, fun _ => rfl⟩
  mir := ⟨rfl, .inl ⟨rfl, rfl⟩⟩
  each := fun i m l a hm => by simp at hm
  nd := fun i j m m' hm => by simp at hm
  rep := ⟨rfl, .inl ⟨rfl, rfl⟩⟩
  ok := init0_ok

set_option maxRecDepth 100000 in
set_option maxHeartbeats 4000000 in
theorem nil_walk (W : World) (v : Value) (L : List Ac) (hl : ActsArg W v L) : Calls Try.prog 9 #[v] W (LawPost W) := by
  obtain ⟨sp, cap, rfl, hsrc⟩ := hl
  obtain ⟨n, hn⟩ : ∃ n, n = L.length := ⟨_, rfl⟩
  rw [← hn] at hsrc ⊢
  have HN := Lib.hid hn
  have HSRC := Lib.hid hsrc
  clear hn hsrc
  go_enter Try.func9, Try.ntmps9
  go_wp2_with fail
  refine (sanity_any W).mono ?_
  rintro e w1 ⟨rfl, k1⟩
  have K1 := Lib.hid k1
  clear k1
  go_wp2_with fail
  obtain ⟨w2, hw2⟩ : ∃ w, w = w1.alloc (.cells #[.slice none 0 0, .slice none 0 0, .map none, .slice none 0 0, .int .i64 0, .slice none 0 0] 71) := ⟨_, rfl⟩
  obtain ⟨V, hV⟩ : ∃ V : NV, V = ⟨w1.heap.size, .slice none 0 0, .slice none 0 0, .map none, .slice none 0 0, .slice none 0 0, []⟩ := ⟨_, rfl⟩
  have hz := zeroNet w1
  rw [← hw2, ← hV] at hz
  have HZN := Lib.hid hz
  have K2 : Hid (Kp (fun _ => False) w1 w2) := Lib.hid (by rw [hw2]; exact Kp.alloc _ _ _)
  have hVb : w1.heap.size = V.b := by rw [hV]
  rw [← hw2]
  have HVB := Lib.hid hVb
  clear hw2 hV hz hVb
  refine (rnews_any w2 [] [] [] none none none 0 0 0 0 0 0 rfl rfl rfl [] (Src.nil _ _ _) (Src.nil _ _ _) ⟨Src.nil _ _ _, fun i m l hm => by simp at hm⟩ init0_ok).mono ?_
  rintro e w3 ⟨R, rfl, hr, k3⟩
  have D3 : Hid (DeskP w3 W.heap.size V R (initS [] [] []) (initS [] [] [])) := Lib.hid ((two_new HZN.out hr k3 K2.out.size).down K1.out.size)
  have K3 : Hid (Kp (fun _ => False) W w3) := Lib.hid ((K1.out.trans K2.out fun _ (h : False) => h.elim).trans k3 fun _ h => h.elim)
  clear hr k3
  dsimp only
  rw [HVB.out]
  go_wp2_with (first
    | (refine wpList_alloc31 rfl rfl ?_; intro x w4 z4 hz4 hg4 eg4 sg4 k4; have HZ4 := Lib.hid hz4; have HG4 := Lib.hid hg4; have EG4 := Lib.hid eg4; have K4 := Lib.hid k4; clear hz4 hg4 eg4 sg4 k4)
    | (refine wpList_store31 rfl (.tmp 5) (.tmp 14) rfl x V R rfl rfl z4 HG4.out HZ4.out ?_; intro w5 hg5 k5; have LA := Lib.hid (law_start D3.out K3.out K4.out EG4.out k5 hg5); clear hg5 k5))
  go_loopw [6] (fun i wr => PlRel W x n 20 i wr) (fun i _ => n - (Go.RowKit.intOf i).toNat)
  case atStart => exact ⟨0, V, R, _, rfl, Nat.zero_le _, Nat.zero_le _, LA.out, Nat.le_refl _⟩
  case round =>
    obtain ⟨k, V1, R1, s1, rfl, hk, hk20, hla, hsn⟩ := hrel
    have HL := Lib.hid hla
    clear hla
    by_cases hlt : k < n
    · by_cases h20 : k < 20
      · obtain ⟨ac, hac⟩ : ∃ a, L[k]? = some a := ⟨_, List.getElem?_eq_getElem (by rw [← HN.out]; exact hlt)⟩
        obtain ⟨g, o, rfl, hr⟩ := HSRC.out.2 (by omega)
        have RA : Hid (W.rangeAt g (o + k * 4) (acCells ac)) := Lib.hid (rangeAt_flat acCells 4 L hr k ac (fun _ _ => rfl) hac)
        have hgW : Hid (g < W.heap.size) := Lib.hid (rangeAt_lt RA.out (by rw [acCells_len]; decide))
        have RB : Hid (wr.rangeAt g (o + k * 4) (acCells ac)) := Lib.hid (rangeAt_kp RA.out HL.out.k (by have := hgW.out; show ¬ W.heap.size ≤ g; omega))
        have HI35 := Lib.hid (info35s ac)
        have j0 : (0 : Int) ≤ (k : Int) := by omega
        have j1 : (k : Int) < (n : Int) := by omega
        have j20 : (k : Int) < 20 := by omega
        have RX := Lib.hid (range_of_heap HL.out.dx)
        clear hac hr
        go_wp2_with fail
        refine wp_region_held_drew (S := fun u => u.rangeAt x 0 [.pointer (some ⟨V1.b, 0, none⟩), .pointer (some ⟨R1.b, 0, none⟩)] ∧ u.rangeAt g (o + k * 4) (acCells ac)) (by kernel_rfl) (⟨RX.out, RB.out⟩) (fun hHeld => ?_)
        refine wpAnyH_take (i := 0) (v := _) rfl (by kernel_rfl) (by kernel_rfl) (by kernel_rfl) (fun _ _ _ h => h) (yieldsIf_load_mid (by rfl) _ _ rfl _ _ rfl _ _ (fun _ h => h.1) Try.underlying31 rfl (by kernel_rfl)) (by assumption) ?_
        simp only [Act.put, List.getElem_toArray, List.getElem_cons_succ, List.getElem_cons_zero, List.setIfInBounds_toArray, List.set_cons_zero, List.set_cons_succ]
        refine wpAnyH_take (i := 1) (v := ?v1) rfl (by kernel_rfl) (by kernel_rfl) (by kernel_rfl) (fun _ _ _ h => h) (Or.inl ⟨by rfl, ?y1⟩) (by assumption) ?r1
        case y1 =>
          intro wq hSw
          clear hSw
          go_simp
          with_reducible rfl
        simp only [Act.put, List.getElem_toArray, List.getElem_cons_succ, List.getElem_cons_zero, List.setIfInBounds_toArray, List.set_cons_zero, List.set_cons_succ]
        refine wpAnyH_take (i := 2) (v := ?v2) rfl (by kernel_rfl) (by kernel_rfl) (by kernel_rfl) (fun _ _ _ h => h) (Or.inl ⟨by rfl, ?y2⟩) (by assumption) ?r2
        case y2 =>
          intro wq hSw
          clear hSw
          go_simp
          with_reducible rfl
        simp only [Act.put, List.getElem_toArray, List.getElem_cons_succ, List.getElem_cons_zero, List.setIfInBounds_toArray, List.set_cons_zero, List.set_cons_succ]
        refine wpAnyH_take (i := 3) (v := ?v3) rfl (by kernel_rfl) (by kernel_rfl) (by kernel_rfl) (fun _ _ _ h => h) (Or.inl ⟨by rfl, ?y3⟩) (by assumption) ?r3
        case y3 =>
          intro wq hSw
          clear hSw
          go_simp
          with_reducible rfl
        simp only [Act.put, List.getElem_toArray, List.getElem_cons_succ, List.getElem_cons_zero, List.setIfInBounds_toArray, List.set_cons_zero, List.set_cons_succ]
        refine wpAnyH_take (i := 4) (v := _) rfl (by kernel_rfl) (by kernel_rfl) (by kernel_rfl) (fun _ _ _ h => h) (yieldsIf_load_mid (by rfl) _ _ rfl _ _ rfl _ _ (fun _ h => h.2) Try.underlying35 rfl HI35.out) (by assumption) ?_
        simp only [Act.put, List.getElem_toArray, List.getElem_cons_succ, List.getElem_cons_zero, List.setIfInBounds_toArray, List.set_cons_zero, List.set_cons_succ]
        refine wpAnyH_ready (rs := [5]) (by kernel_rfl) (by simp) ?_
        refine AllReadyH.cons rfl (fun K hK => ?_) AllReadyH.nil
        rw [if_pos (by rfl)]
        go_simp
        refine (do_act (HL.out.keep0 (Kp.drew _ _)).d ac (by omega)).mono ?_
        rintro e w5 ⟨rfl, vr5, vr6, hd5, k5⟩
        have L5 := Lib.hid ((HL.out.keep0 (Kp.drew _ _)).act hd5 k5)
        have RB5 := Lib.hid (rangeAt_kp RA.out L5.out.k (by have := hgW.out; show ¬ W.heap.size ≤ g; omega))
        clear hd5 k5
        dsimp only
        refine hK.out _ _ (⟨range_of_heap L5.out.dx, RB5.out⟩) (fun hHeld => ?_)
        clear hK K
        refine wpAnyH_take (i := 6) (v := ?v4) rfl (by kernel_rfl) (by kernel_rfl) (by kernel_rfl) (fun _ _ _ h => h) (Or.inl ⟨by rfl, ?y4⟩) (by assumption) ?r4
        case y4 =>
          intro wq hSw
          clear hSw
          go_simp
          with_reducible rfl
        simp only [Act.put, List.getElem_toArray, List.getElem_cons_succ, List.getElem_cons_zero, List.setIfInBounds_toArray, List.set_cons_zero, List.set_cons_succ]
        refine wpAnyH_done (by kernel_rfl) ?_ _
        go_wp2_with fail
        refine wp_region_held_drew (S := Kp (fun _ => False) w5) (by kernel_rfl) (Kp.drew _ _) (fun hHeld => ?_)
        refine wpAnyH_take (i := 0) (v := ?v5) rfl (by kernel_rfl) (by kernel_rfl) (by kernel_rfl) (fun _ _ _ h => h) (Or.inl ⟨by rfl, ?y5⟩) (by assumption) ?r5
        case y5 =>
          intro wq hSw
          clear hSw
          go_simp
          with_reducible rfl
        simp only [Act.put, List.getElem_toArray, List.getElem_cons_succ, List.getElem_cons_zero, List.setIfInBounds_toArray, List.set_cons_zero, List.set_cons_succ]
        refine wpAnyH_take (i := 1) (v := ?v6) rfl (by kernel_rfl) (by kernel_rfl) (by kernel_rfl) (fun _ _ _ h => h) (Or.inl ⟨by rfl, ?y6⟩) (by assumption) ?r6
        case y6 =>
          intro wq hSw
          clear hSw
          go_simp
          with_reducible rfl
        simp only [Act.put, List.getElem_toArray, List.getElem_cons_succ, List.getElem_cons_zero, List.setIfInBounds_toArray, List.set_cons_zero, List.set_cons_succ]
        refine wpAnyH_take (i := 2) (v := ?v7) rfl (by kernel_rfl) (by kernel_rfl) (by kernel_rfl) (fun _ _ _ h => h) (Or.inl ⟨by rfl, ?y7⟩) (by assumption) ?r7
        case y7 =>
          intro wq hSw
          clear hSw
          go_simp
          with_reducible rfl
        simp only [Act.put, List.getElem_toArray, List.getElem_cons_succ, List.getElem_cons_zero, List.setIfInBounds_toArray, List.set_cons_zero, List.set_cons_succ]
        refine wpAnyH_take (i := 3) (v := ?v8) rfl (by kernel_rfl) (by kernel_rfl) (by kernel_rfl) (fun _ _ _ h => h) (Or.inl ⟨by rfl, ?y8⟩) (by assumption) ?r8
        case y8 =>
          intro wq hSw
          clear hSw
          go_simp
          with_reducible rfl
        simp only [Act.put, List.getElem_toArray, List.getElem_cons_succ, List.getElem_cons_zero, List.setIfInBounds_toArray, List.set_cons_zero, List.set_cons_succ]
        refine wpAnyH_take (i := 4) (v := ?v9) rfl (by kernel_rfl) (by kernel_rfl) (by kernel_rfl) (fun _ _ _ h => h) (Or.inl ⟨by rfl, ?y9⟩) (by assumption) ?r9
        case y9 =>
          intro wq hSw
          clear hSw
          go_simp
          with_reducible rfl
        simp only [Act.put, List.getElem_toArray, List.getElem_cons_succ, List.getElem_cons_zero, List.setIfInBounds_toArray, List.set_cons_zero, List.set_cons_succ]
        refine wpAnyH_take (i := 5) (v := ?v10) rfl (by kernel_rfl) (by kernel_rfl) (by kernel_rfl) (fun _ _ _ h => h) (Or.inl ⟨by rfl, ?y10⟩) (by assumption) ?r10
        case y10 =>
          intro wq hSw
          clear hSw
          go_simp
          with_reducible rfl
        simp only [Act.put, List.getElem_toArray, List.getElem_cons_succ, List.getElem_cons_zero, List.setIfInBounds_toArray, List.set_cons_zero, List.set_cons_succ]
        refine wpAnyH_take (i := 6) (v := ?v11) rfl (by kernel_rfl) (by kernel_rfl) (by kernel_rfl) (fun _ _ _ h => h) (Or.inl ⟨by rfl, ?y11⟩) (by assumption) ?r11
        case y11 =>
          intro wq hSw
          clear hSw
          go_simp
          with_reducible rfl
        simp only [Act.put, List.getElem_toArray, List.getElem_cons_succ, List.getElem_cons_zero, List.setIfInBounds_toArray, List.set_cons_zero, List.set_cons_succ]
        refine wpAnyH_take (i := 7) (v := ?v12) rfl (by kernel_rfl) (by kernel_rfl) (by kernel_rfl) (fun _ _ _ h => h) (Or.inl ⟨by rfl, ?y12⟩) (by assumption) ?r12
        case y12 =>
          intro wq hSw
          clear hSw
          go_simp
          with_reducible rfl
        simp only [Act.put, List.getElem_toArray, List.getElem_cons_succ, List.getElem_cons_zero, List.setIfInBounds_toArray, List.set_cons_zero, List.set_cons_succ]
        refine wpAnyH_take (i := 8) (v := ?v13) rfl (by kernel_rfl) (by kernel_rfl) (by kernel_rfl) (fun _ _ _ h => h) (Or.inl ⟨by rfl, ?y13⟩) (by assumption) ?r13
        case y13 =>
          intro wq hSw
          have q0 := (rangeAt_kp RB5.out hSw (fun h => h)) 1 _ rfl
          clear hSw
          go_simp
          with_reducible rfl
        simp only [Act.put, List.getElem_toArray, List.getElem_cons_succ, List.getElem_cons_zero, List.setIfInBounds_toArray, List.set_cons_zero, List.set_cons_succ]
        refine wpAnyH_take (i := 9) (v := ?v14) rfl (by kernel_rfl) (by kernel_rfl) (by kernel_rfl) (fun _ _ _ h => h) (Or.inl ⟨by rfl, ?y14⟩) (by assumption) ?r14
        case y14 =>
          intro wq hSw
          clear hSw
          go_simp
          with_reducible rfl
        simp only [Act.put, List.getElem_toArray, List.getElem_cons_succ, List.getElem_cons_zero, List.setIfInBounds_toArray, List.set_cons_zero, List.set_cons_succ]
        refine wpAnyH_take (i := 10) (v := ?v15) rfl (by kernel_rfl) (by kernel_rfl) (by kernel_rfl) (fun _ _ _ h => h) (Or.inl ⟨by rfl, ?y15⟩) (by assumption) ?r15
        case y15 =>
          intro wq hSw
          clear hSw
          go_simp
          with_reducible rfl
        simp only [Act.put, List.getElem_toArray, List.getElem_cons_succ, List.getElem_cons_zero, List.setIfInBounds_toArray, List.set_cons_zero, List.set_cons_succ]
        refine wpAnyH_take (i := 11) (v := ?v16) rfl (by kernel_rfl) (by kernel_rfl) (by kernel_rfl) (fun _ _ _ h => h) (Or.inl ⟨by rfl, ?y16⟩) (by assumption) ?r16
        case y16 =>
          intro wq hSw
          clear hSw
          go_simp
          with_reducible rfl
        simp only [Act.put, List.getElem_toArray, List.getElem_cons_succ, List.getElem_cons_zero, List.setIfInBounds_toArray, List.set_cons_zero, List.set_cons_succ]
        refine wpAnyH_take (i := 12) (v := _) rfl (by kernel_rfl) (by kernel_rfl) (by kernel_rfl) (fun _ _ _ h => h) (yieldsIf_load_mid (by rfl) _ _ rfl _ _ rfl _ _ (fun _ h => rangeAt_kp RB5.out h (fun h => h)) Try.underlying35 rfl HI35.out) (by assumption) ?_
        simp only [Act.put, List.getElem_toArray, List.getElem_cons_succ, List.getElem_cons_zero, List.setIfInBounds_toArray, List.set_cons_zero, List.set_cons_succ]
        refine wpAnyH_ready (rs := [13]) (by kernel_rfl) (by simp) ?_
        refine AllReadyH.cons rfl (fun K hK => ?_) AllReadyH.nil
        have HS1 := Lib.hid hHeld
        rw [if_pos (by rfl)]
        go_simp
        refine (request_any ac.k ac.now ac.mir ac.h _).mono ?_
        rintro e w6 ⟨rfl, k6⟩
        have K6 := Lib.hid (HS1.out.trans k6 fun _ (h : False) => h.elim)
        clear k6
        obtain ⟨rq, hrq⟩ : ∃ r, r = reqV (mirK ac.mir) (hshK ac.h) := ⟨_, rfl⟩
        rw [← hrq]
        have HRQ := Lib.hid hrq
        clear hrq
        dsimp only
        refine hK.out _ _ (K6.out) (fun hHeld => ?_)
        clear hK K
        refine wpAnyH_ready (rs := [14]) (by kernel_rfl) (by simp) ?_
        refine AllReadyH.cons rfl (fun K hK => ?_) AllReadyH.nil
        rw [if_pos (by rfl)]
        go_simp
        rw [HRQ.out]
        refine (ask_nil ac.now (mirK ac.mir) (hshK ac.h) _).mono ?_
        rintro e w7 ⟨rfl, k7⟩
        rw [← HRQ.out]
        have KE := Lib.hid (K6.out.trans k7 fun _ (h : False) => h.elim)
        clear k7
        dsimp only
        refine hK.out _ _ (KE.out) (fun hHeld => ?_)
        clear hK K
        refine wpAnyH_take (i := 15) (v := ?v17) rfl (by kernel_rfl) (by kernel_rfl) (by kernel_rfl) (fun _ _ _ h => h) (Or.inl ⟨by rfl, ?y17⟩) (by assumption) ?r17
        case y17 =>
          intro wq hSw
          clear hSw
          go_simp
          with_reducible rfl
        simp only [Act.put, List.getElem_toArray, List.getElem_cons_succ, List.getElem_cons_zero, List.setIfInBounds_toArray, List.set_cons_zero, List.set_cons_succ]
        refine wpAnyH_take (i := 16) (v := ?v18) rfl (by kernel_rfl) (by kernel_rfl) (by kernel_rfl) (fun _ _ _ h => h) (Or.inl ⟨by rfl, ?y18⟩) (by assumption) ?r18
        case y18 =>
          intro wq hSw
          clear hSw
          go_simp
          with_reducible rfl
        simp only [Act.put, List.getElem_toArray, List.getElem_cons_succ, List.getElem_cons_zero, List.setIfInBounds_toArray, List.set_cons_zero, List.set_cons_succ]
        refine wpAnyH_done (by kernel_rfl) ?_ _
        go_wp2_with fail
        go_roundw
        case rel => exact ⟨k + 1, _, _, doS s1 ac, by simp, by omega, by omega, L5.out.keep0 KE.out, by have := doS_n s1 ac; omega⟩
        case measure => simp [Go.RowKit.intOf]; omega
      · have h22 : k = 20 := by omega
        subst h22
        clear h20
        go_wp2_with fail
        refine (next_nil wr).mono ?_
        rintro e w6 ⟨rfl, k6⟩
        have L6 := Lib.hid (HL.out.keep0 k6)
        clear k6
        dsimp only
        obtain ⟨rz, hrz⟩ : ∃ r, r = rpV zeroR := ⟨_, rfl⟩
        rw [← hrz]
        have HRZ := Lib.hid hrz
        clear hrz
        go_wp2_with (first
          | (refine wpList_alloc50 rfl rfl ?_; intro gA w7 z7 hz7 hg7 eg7 sg7 k7; have HZ7 := Lib.hid hz7; have HG7 := Lib.hid hg7; have EG7 := Lib.hid eg7; have K7 := Lib.hid k7; clear hz7 hg7 eg7 sg7 k7)
          | (refine wpList_store50 rfl (.tmp 8) (.tmp 51) rfl gA zeroR rfl HRZ.out z7 HG7.out HZ7.out ?_; intro w8 hg8 k8; have k68 := (K7.out.zero.trans k8 fun q h => .inl h : Kp (fun q => q = gA) w6 w8).mono (G := fun _ => False) (fun q h => .inr (by have := EG7.out; omega)); have L8 := Lib.hid (L6.out.keep0 k68); clear hg8 k8 k68))
        refine (waiting_nil w8).mono ?_
        rintro e w' ⟨rfl, rfl⟩
        dsimp only
        go_wp2_with fail
        go_ret
        exact ⟨rfl, L8.out.k⟩
    · have hjn : k = n := by omega
      subst hjn
      go_wp2_with fail
      refine (next_nil wr).mono ?_
      rintro e w6 ⟨rfl, k6⟩
      have L6 := Lib.hid (HL.out.keep0 k6)
      clear k6
      dsimp only
      obtain ⟨rz, hrz⟩ : ∃ r, r = rpV zeroR := ⟨_, rfl⟩
      rw [← hrz]
      have HRZ := Lib.hid hrz
      clear hrz
      go_wp2_with (first
        | (refine wpList_alloc50 rfl rfl ?_; intro gA w7 z7 hz7 hg7 eg7 sg7 k7; have HZ7 := Lib.hid hz7; have HG7 := Lib.hid hg7; have EG7 := Lib.hid eg7; have K7 := Lib.hid k7; clear hz7 hg7 eg7 sg7 k7)
        | (refine wpList_store50 rfl (.tmp 8) (.tmp 51) rfl gA zeroR rfl HRZ.out z7 HG7.out HZ7.out ?_; intro w8 hg8 k8; have k68 := (K7.out.zero.trans k8 fun q h => .inl h : Kp (fun q => q = gA) w6 w8).mono (G := fun _ => False) (fun q h => .inr (by have := EG7.out; omega)); have L8 := Lib.hid (L6.out.keep0 k68); clear hg8 k8 k68))
      refine (waiting_nil w8).mono ?_
      rintro e w' ⟨rfl, rfl⟩
      dsimp only
      go_wp2_with fail
      go_ret
      exact ⟨rfl, L8.out.k⟩

end Go.Proofs.Ytlkamfmepjddkaa
