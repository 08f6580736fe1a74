/- Walk: the law DigestTexts. -/
import Derived.Test.YtgkdjcednebgoaaXh
namespace Go.Proofs.Ytgkdjcednebgoaa
open Go.RowKit Go.Lib

theorem hexC_inj : ∀ m n : Fin 16, hexC m.val = hexC n.val → m = n := by decide +kernel
theorem hex2_inj (a b : UInt8) (h : hex2 a = hex2 b) : a = b := by
  simp only [hex2, List.cons.injEq, and_true] at h
  have h1 := hexC_inj ⟨a.toNat / 16, by have := UInt8.toNat_lt a; omega⟩ ⟨b.toNat / 16, by have := UInt8.toNat_lt b; omega⟩ h.1
  have h2 := hexC_inj ⟨a.toNat % 16, by omega⟩ ⟨b.toNat % 16, by omega⟩ h.2
  simp only [Fin.mk.injEq] at h1 h2
  exact UInt8.toNat_inj.1 (by omega)

theorem textL_inj : ∀ a b : List UInt8, textL a = textL b → a = b
  | [], [], _ => rfl
  | [], y :: ys, h => by simp [textL, hex2] at h
  | x :: xs, [], h => by simp [textL, hex2] at h
  | x :: xs, y :: ys, h => by
    have h' : hex2 x ++ textL xs = hex2 y ++ textL ys := by simpa [textL] using h
    have h2 := List.append_inj h' rfl
    rw [hex2_inj x y h2.1, textL_inj xs ys h2.2]

def txt (a : List UInt8) : ByteArray := ⟨(textL a).toArray⟩
theorem txt_inj (a b : List UInt8) (h : txt a = txt b) : a = b := by
  apply textL_inj
  have := congrArg (fun t : ByteArray => t.data.toList) h
  simpa [txt] using this
theorem txt_toList (a : List UInt8) : (txt a).toList = textL a := by
  simp [txt, ByteArray.toList_eq]
theorem txt_size (a : List UInt8) : (txt a).size = 2 * a.length := by rw [size_list]; simp [txt, textL_length]

/-- Text, with what it keeps. -/
theorem text_k (w w0 : World) (A B : Nat) (x y : List Value) (h : List UInt8) (hl : h.length = 32) (hs : w.rangeAt A 0 x ∧ w.rangeAt B 0 y ∧ Kp (fun _ => False) w0 w) :
    Calls Try.prog 15 #[.agg (byteCells h).toArray] w fun e w' => e = .returned (.string (txt h)) ∧ (w'.rangeAt A 0 x ∧ w'.rangeAt B 0 y ∧ Kp (fun _ => False) w0 w') := by
  refine (text_any w h hl).mono ?_
  rintro e w' ⟨rfl, hb⟩
  exact ⟨rfl, rng_kp hs.1 (Below.kp hb), rng_kp hs.2.1 (Below.kp hb), hs.2.2.trans (Below.kp hb) fun _ h => h.elim⟩
theorem rtext_k (w w0 : World) (A B : Nat) (x y : List Value) (h : List UInt8) (hl : h.length = 32) (hs : w.rangeAt A 0 x ∧ w.rangeAt B 0 y ∧ Kp (fun _ => False) w0 w) :
    Calls Try.prog 16 #[.agg (byteCells h).toArray] w fun e w' => e = .returned (.string (txt h)) ∧ (w'.rangeAt A 0 x ∧ w'.rangeAt B 0 y ∧ Kp (fun _ => False) w0 w') := by
  refine (rtext_any w h hl).mono ?_
  rintro e w' ⟨rfl, hb⟩
  exact ⟨rfl, rng_kp hs.1 (Below.kp hb), rng_kp hs.2.1 (Below.kp hb), hs.2.2.trans (Below.kp hb) fun _ h => h.elim⟩

theorem s3_drew {w0 u : World} {A B : Nat} {x y : List Value} (hs : u.rangeAt A 0 x ∧ u.rangeAt B 0 y ∧ Kp (fun _ => False) w0 u) : u.drew.rangeAt A 0 x ∧ u.drew.rangeAt B 0 y ∧ Kp (fun _ => False) w0 u.drew :=
  ⟨hs.1, hs.2.1, hs.2.2.trans (Kp.drew (fun _ => False) _) fun _ h => h.elim⟩

set_option maxRecDepth 100000 in
set_option maxHeartbeats 8000000 in
theorem texts_walk (W : World) (a b : List UInt8) (ha : a.length = 32) (hb : b.length = 32) :
    Calls Try.prog 6 #[.agg (byteCells a).toArray, .agg (byteCells b).toArray] W fun e w' => e = .returned (.bool true) ∧ Below W.heap.size W w' := by
  have hu := Try.underlying24
  have hia : (Try.prog.info? 24).map (·.size) = some (byteCells a).length := info24.trans (by simp [byteCells, ha])
  have hib : (Try.prog.info? 24).map (·.size) = some (byteCells b).length := info24.trans (by simp [byteCells, hb])
  have heq := run_eq32 a b ha hb
  obtain ⟨ta, hta⟩ : ∃ t, t = txt a := ⟨_, rfl⟩
  obtain ⟨tb, htb⟩ : ∃ t, t = txt b := ⟨_, rfl⟩
  have hsz : ta.size = 64 := by rw [hta, txt_size, ha]
  have HE : Hid ((ta.toList == tb.toList) = (a == b)) := Lib.hid (by
    rw [Bool.eq_iff_iff, beq_iff_eq, beq_iff_eq, hta, htb, txt_toList, txt_toList]
    exact ⟨textL_inj a b, fun h => by rw [h]⟩)
  obtain ⟨q, hq⟩ : ∃ q, (a == b) = q := ⟨_, rfl⟩
  rw [hq] at heq
  have hteq : (ta.toList == tb.toList) = q := by rw [HE.out, hq]
  have HTA := Lib.hid hta.symm
  have HTB := Lib.hid htb.symm
  clear hta htb hq
  go_enter Try.func6, Try.ntmps6
  go_wp2_with fail
  obtain ⟨w0, hw0⟩ : ∃ w0, w0 = (W.alloc (.cells (byteCells a).toArray 24)).alloc (.cells (byteCells b).toArray 24) := ⟨_, rfl⟩
  have HA : Hid (w0.heap[W.heap.size]? = some (.cells (byteCells a).toArray 24 (0, 0))) := Lib.hid (by rw [hw0]; exact heap_alloc2_old W _ _)
  have HB : Hid (w0.heap[W.heap.size + 1]? = some (.cells (byteCells b).toArray 24 (0, 0))) := Lib.hid (by rw [hw0]; exact heap_alloc2_new W _ _)
  have K0 : Hid (Kp (fun _ => False) W w0) := Lib.hid (by rw [hw0]; exact (Kp.alloc _ W _).trans (Kp.alloc (fun _ => False) _ _) fun _ h => h.elim)
  rw [← hw0]
  clear hw0
  refine (sanity_any w0).mono ?_
  rintro e w1 ⟨rfl, k1⟩
  have K1 : Hid (Kp (fun _ => False) W w1) := Lib.hid (K0.out.trans k1 fun _ h => h.elim)
  have ra := rng_row (k1.heap HA.out (fun h => h))
  have rb := rng_row (k1.heap HB.out (fun h => h))
  have rk : Kp (fun _ => False) W w1 := K1.out
  clear k1
  go_wp2_with fail
  refine wp_region_held_drew (S := fun w' => w'.rangeAt W.heap.size 0 (byteCells a) ∧ w'.rangeAt (W.heap.size + 1) 0 (byteCells b) ∧ Kp (fun _ => False) W w') (by kernel_rfl) (s3_drew ⟨ra, rb, rk⟩) (fun hHeld => ?_)
  refine wpAnyH_take (i := 0) (v := ?v1) rfl (by kernel_rfl) (by kernel_rfl) (by kernel_rfl) (fun _ _ _ h => h) (Or.inl ⟨by rfl, ?y1⟩) (by assumption) ?r1
  case y1 =>
    intro w hSw
    clear hSw
    go_simp
    with_reducible rfl
  simp only [Act.put, List.getElem_toArray, List.getElem_cons_succ, List.getElem_cons_zero, List.setIfInBounds_toArray, List.set_cons_zero, List.set_cons_succ]
  refine wpAnyH_take (i := 1) (v := ?v2) rfl (by kernel_rfl) (by kernel_rfl) (by kernel_rfl) (fun _ _ _ h => h) (Or.inl ⟨by rfl, ?y2⟩) (by assumption) ?r2
  case y2 =>
    intro w hSw
    clear hSw
    go_simp
    with_reducible rfl
  simp only [Act.put, List.getElem_toArray, List.getElem_cons_succ, List.getElem_cons_zero, List.setIfInBounds_toArray, List.set_cons_zero, List.set_cons_succ]
  refine wpAnyH_take (i := 2) (v := _) rfl (by kernel_rfl) (by kernel_rfl) (by kernel_rfl) (fun _ _ _ h => h) (yieldsIf_load_mid (by rfl) _ _ rfl _ _ rfl _ _ (fun _ h => h.1) hu rfl hia) (by assumption) ?_
  simp only [Act.put, List.getElem_toArray, List.getElem_cons_succ, List.getElem_cons_zero, List.setIfInBounds_toArray, List.set_cons_zero, List.set_cons_succ]
  refine wpAnyH_take (i := 4) (v := _) rfl (by kernel_rfl) (by kernel_rfl) (by kernel_rfl) (fun _ _ _ h => h) (yieldsIf_load_mid (by rfl) _ _ rfl _ _ rfl _ _ (fun _ h => h.1) hu rfl hia) (by assumption) ?_
  simp only [Act.put, List.getElem_toArray, List.getElem_cons_succ, List.getElem_cons_zero, List.setIfInBounds_toArray, List.set_cons_zero, List.set_cons_succ]
  refine wpAnyH_ready (rs := [3]) (by kernel_rfl) (by simp) ?_
  refine AllReadyH.cons rfl (fun K hK => ?_) AllReadyH.nil
  rw [if_pos (by rfl)]
  go_simp
  refine (text_k _ W W.heap.size (W.heap.size + 1) (byteCells a) (byteCells b) a ha (by assumption)).mono ?_
  rintro e w' ⟨rfl, hss⟩
  rw [HTA.out]
  dsimp only
  refine hK.out _ _ (hss) (fun hHeld => ?_)
  clear hK K
  refine wpAnyH_ready (rs := [5]) (by kernel_rfl) (by simp) ?_
  refine AllReadyH.cons rfl (fun K hK => ?_) AllReadyH.nil
  rw [if_pos (by rfl)]
  go_simp
  refine (rtext_k _ W W.heap.size (W.heap.size + 1) (byteCells a) (byteCells b) a ha (by assumption)).mono ?_
  rintro e w' ⟨rfl, hss⟩
  rw [HTA.out]
  dsimp only
  refine hK.out _ _ (hss) (fun hHeld => ?_)
  clear hK K
  refine wpAnyH_take (i := 6) (v := ?v3) rfl (by kernel_rfl) (by kernel_rfl) (by kernel_rfl) (fun _ _ _ h => h) (Or.inl ⟨by rfl, ?y3⟩) (by assumption) ?r3
  case y3 =>
    intro w hSw
    clear hSw
    go_simp
    with_reducible rfl
  simp only [Act.put, List.getElem_toArray, List.getElem_cons_succ, List.getElem_cons_zero, List.setIfInBounds_toArray, List.set_cons_zero, List.set_cons_succ]
  refine wpAnyH_take (i := 7) (v := ?v4) rfl (by kernel_rfl) (by kernel_rfl) (by kernel_rfl) (fun _ _ _ h => h) (Or.inl ⟨by rfl, ?y4⟩) (by assumption) ?r4
  case y4 =>
    intro w hSw
    clear hSw
    go_simp
    with_reducible rfl
  simp only [Act.put, List.getElem_toArray, List.getElem_cons_succ, List.getElem_cons_zero, List.setIfInBounds_toArray, List.set_cons_zero, List.set_cons_succ]
  refine wpAnyH_take (i := 8) (v := ?v5) rfl (by kernel_rfl) (by kernel_rfl) (by kernel_rfl) (fun _ _ _ h => h) (Or.inl ⟨by rfl, ?y5⟩) (by assumption) ?r5
  case y5 =>
    intro w hSw
    clear hSw
    go_simp
    with_reducible rfl
  simp only [Act.put, List.getElem_toArray, List.getElem_cons_succ, List.getElem_cons_zero, List.setIfInBounds_toArray, List.set_cons_zero, List.set_cons_succ]
  refine wpAnyH_take (i := 9) (v := _) rfl (by kernel_rfl) (by kernel_rfl) (by kernel_rfl) (fun _ _ _ h => h) (yieldsIf_load_mid (by rfl) _ _ rfl _ _ rfl _ _ (fun _ h => h.1) hu rfl hia) (by assumption) ?_
  simp only [Act.put, List.getElem_toArray, List.getElem_cons_succ, List.getElem_cons_zero, List.setIfInBounds_toArray, List.set_cons_zero, List.set_cons_succ]
  refine wpAnyH_ready (rs := [10]) (by kernel_rfl) (by simp) ?_
  refine AllReadyH.cons rfl (fun K hK => ?_) AllReadyH.nil
  rw [if_pos (by rfl)]
  go_simp
  refine (text_k _ W W.heap.size (W.heap.size + 1) (byteCells a) (byteCells b) a ha (by assumption)).mono ?_
  rintro e w' ⟨rfl, hss⟩
  rw [HTA.out]
  dsimp only
  refine hK.out _ _ (hss) (fun hHeld => ?_)
  clear hK K
  refine wpAnyH_take (i := 11) (v := ?v6) rfl (by kernel_rfl) (by kernel_rfl) (by kernel_rfl) (fun _ _ _ h => h) (Or.inl ⟨by rfl, ?y6⟩) (by assumption) ?r6
  case y6 =>
    intro w hSw
    clear hSw
    go_simp
    with_reducible rfl
  simp only [Act.put, List.getElem_toArray, List.getElem_cons_succ, List.getElem_cons_zero, List.setIfInBounds_toArray, List.set_cons_zero, List.set_cons_succ]
  refine wpAnyH_take (i := 12) (v := ?v7) rfl (by kernel_rfl) (by kernel_rfl) (by kernel_rfl) (fun _ _ _ h => h) (Or.inl ⟨by rfl, ?y7⟩) (by assumption) ?r7
  case y7 =>
    intro w hSw
    clear hSw
    go_simp
    with_reducible rfl
  simp only [Act.put, List.getElem_toArray, List.getElem_cons_succ, List.getElem_cons_zero, List.setIfInBounds_toArray, List.set_cons_zero, List.set_cons_succ]
  refine wpAnyH_take (i := 13) (v := ?v8) rfl (by kernel_rfl) (by kernel_rfl) (by kernel_rfl) (fun _ _ _ h => h) (Or.inl ⟨by rfl, ?y8⟩) (by assumption) ?r8
  case y8 =>
    intro w hSw
    clear hSw
    go_simp
    with_reducible rfl
  simp only [Act.put, List.getElem_toArray, List.getElem_cons_succ, List.getElem_cons_zero, List.setIfInBounds_toArray, List.set_cons_zero, List.set_cons_succ]
  refine wpAnyH_take (i := 14) (v := ?v9) rfl (by kernel_rfl) (by kernel_rfl) (by kernel_rfl) (fun _ _ _ h => h) (Or.inl ⟨by rfl, ?y9⟩) (by assumption) ?r9
  case y9 =>
    intro w hSw
    clear hSw
    go_simp
    with_reducible rfl
  simp only [Act.put, List.getElem_toArray, List.getElem_cons_succ, List.getElem_cons_zero, List.setIfInBounds_toArray, List.set_cons_zero, List.set_cons_succ]
  refine wpAnyH_take (i := 15) (v := _) rfl (by kernel_rfl) (by kernel_rfl) (by kernel_rfl) (fun _ _ _ h => h) (yieldsIf_load_mid (by rfl) _ _ rfl _ _ rfl _ _ (fun _ h => h.1) hu rfl hia) (by assumption) ?_
  simp only [Act.put, List.getElem_toArray, List.getElem_cons_succ, List.getElem_cons_zero, List.setIfInBounds_toArray, List.set_cons_zero, List.set_cons_succ]
  refine wpAnyH_take (i := 17) (v := _) rfl (by kernel_rfl) (by kernel_rfl) (by kernel_rfl) (fun _ _ _ h => h) (yieldsIf_load_mid (by rfl) _ _ rfl _ _ rfl _ _ (fun _ h => h.2.1) hu rfl hib) (by assumption) ?_
  simp only [Act.put, List.getElem_toArray, List.getElem_cons_succ, List.getElem_cons_zero, List.setIfInBounds_toArray, List.set_cons_zero, List.set_cons_succ]
  refine wpAnyH_take (i := 20) (v := _) rfl (by kernel_rfl) (by kernel_rfl) (by kernel_rfl) (fun _ _ _ h => h) (yieldsIf_load_mid (by rfl) _ _ rfl _ _ rfl _ _ (fun _ h => h.1) hu rfl hia) (by assumption) ?_
  simp only [Act.put, List.getElem_toArray, List.getElem_cons_succ, List.getElem_cons_zero, List.setIfInBounds_toArray, List.set_cons_zero, List.set_cons_succ]
  refine wpAnyH_take (i := 21) (v := _) rfl (by kernel_rfl) (by kernel_rfl) (by kernel_rfl) (fun _ _ _ h => h) (yieldsIf_load_mid (by rfl) _ _ rfl _ _ rfl _ _ (fun _ h => h.2.1) hu rfl hib) (by assumption) ?_
  simp only [Act.put, List.getElem_toArray, List.getElem_cons_succ, List.getElem_cons_zero, List.setIfInBounds_toArray, List.set_cons_zero, List.set_cons_succ]
  refine wpAnyH_take (i := 22) (v := ?v10) rfl (by kernel_rfl) (by kernel_rfl) (by kernel_rfl) (fun _ _ _ h => h) (Or.inl ⟨by rfl, ?y10⟩) (by assumption) ?r10
  case y10 =>
    intro w hSw
    clear hSw
    go_simp
    with_reducible rfl
  simp only [Act.put, List.getElem_toArray, List.getElem_cons_succ, List.getElem_cons_zero, List.setIfInBounds_toArray, List.set_cons_zero, List.set_cons_succ]
  refine wpAnyH_ready (rs := [16]) (by kernel_rfl) (by simp) ?_
  refine AllReadyH.cons rfl (fun K hK => ?_) AllReadyH.nil
  rw [if_pos (by rfl)]
  go_simp
  refine (text_k _ W W.heap.size (W.heap.size + 1) (byteCells a) (byteCells b) a ha (by assumption)).mono ?_
  rintro e w' ⟨rfl, hss⟩
  rw [HTA.out]
  dsimp only
  refine hK.out _ _ (hss) (fun hHeld => ?_)
  clear hK K
  refine wpAnyH_ready (rs := [18]) (by kernel_rfl) (by simp) ?_
  refine AllReadyH.cons rfl (fun K hK => ?_) AllReadyH.nil
  rw [if_pos (by rfl)]
  go_simp
  refine (text_k _ W W.heap.size (W.heap.size + 1) (byteCells a) (byteCells b) b hb (by assumption)).mono ?_
  rintro e w' ⟨rfl, hss⟩
  rw [HTB.out]
  dsimp only
  refine hK.out _ _ (hss) (fun hHeld => ?_)
  clear hK K
  refine wpAnyH_take (i := 19) (v := ?v11) rfl (by kernel_rfl) (by kernel_rfl) (by kernel_rfl) (fun _ _ _ h => h) (Or.inl ⟨by rfl, ?y11⟩) (by assumption) ?r11
  case y11 =>
    intro w hSw
    clear hSw
    go_simp
    with_reducible rfl
  simp only [Act.put, List.getElem_toArray, List.getElem_cons_succ, List.getElem_cons_zero, List.setIfInBounds_toArray, List.set_cons_zero, List.set_cons_succ]
  refine wpAnyH_take (i := 23) (v := ?v12) rfl (by kernel_rfl) (by kernel_rfl) (by kernel_rfl) (fun _ _ _ h => h) (Or.inl ⟨by rfl, ?y12⟩) (by assumption) ?r12
  case y12 =>
    intro w hSw
    clear hSw
    go_simp
    with_reducible rfl
  simp only [Act.put, List.getElem_toArray, List.getElem_cons_succ, List.getElem_cons_zero, List.setIfInBounds_toArray, List.set_cons_zero, List.set_cons_succ]
  refine wpAnyH_take (i := 24) (v := ?v13) rfl (by kernel_rfl) (by kernel_rfl) (by kernel_rfl) (fun _ _ _ h => h) (Or.inl ⟨by rfl, ?y13⟩) (by assumption) ?r13
  case y13 =>
    intro w hSw
    clear hSw
    go_simp
    with_reducible rfl
  simp only [Act.put, List.getElem_toArray, List.getElem_cons_succ, List.getElem_cons_zero, List.setIfInBounds_toArray, List.set_cons_zero, List.set_cons_succ]
  refine wpAnyH_take (i := 25) (v := ?v14) rfl (by kernel_rfl) (by kernel_rfl) (by kernel_rfl) (fun _ _ _ h => h) (Or.inl ⟨by rfl, ?y14⟩) (by assumption) ?r14
  case y14 =>
    intro w hSw
    clear hSw
    go_simp
    with_reducible rfl
  simp only [Act.put, List.getElem_toArray, List.getElem_cons_succ, List.getElem_cons_zero, List.setIfInBounds_toArray, List.set_cons_zero, List.set_cons_succ]
  refine wpAnyH_done (by kernel_rfl) ?_ _
  go_wp2_with fail
  have hf := hss.2.2
  go_ret
  exact ⟨rfl, hf.belowS⟩

end Go.Proofs.Ytgkdjcednebgoaa
