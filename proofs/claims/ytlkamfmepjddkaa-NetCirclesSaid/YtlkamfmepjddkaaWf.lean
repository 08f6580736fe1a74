/- Walk: New of the model. -/
import Derived.Test.YtlkamfmepjddkaaN7
import Derived.Deep.DeepCutAuto
set_option linter.unusedSimpArgs false
set_option linter.unusedVariables false
namespace Go.Proofs.Ytlkamfmepjddkaa
open Go.RowKit Go.Lib Go.Maps

def initS (P O : List Pk) (S : List (List Bh)) : NS := ⟨P, O, S, List.replicate S.length 0, 0, []⟩

def New1 (w : World) (P O : List Pk) (ns : Nat) (s7 : Value) (wx : World) : Prop :=
  ∃ (R7 : Nat) (s1 s2 s3 : Option Addr) (d1 d2 d3 : Nat), s7 = .pointer (some ⟨R7, 0, none⟩) ∧ w.heap.size ≤ R7 ∧ wx.heap[R7]? = some (.cells #[.slice s1 P.length d1, .slice s2 O.length d2, .slice none 0 0, .slice s3 ns d3, .int .i64 0, .slice none 0 0] 63 (0, 0)) ∧
    wx.ownsRow w.heap.size 54 33 (.slice s1 P.length d1) P.length (pks P) ∧ wx.ownsRow w.heap.size 54 33 (.slice s2 O.length d2) O.length (pks O) ∧ wx.ownsRow w.heap.size 3 1 (.slice s3 ns d3) ns (List.replicate ns (.int .i64 0)) ∧ Kp (fun _ => False) w wx

def New2 (w : World) (R7 : Nat) (v1 v2 v3 : Value) (n1 n2 ns : Nat) (P O : List Pk) (S : List (List Bh)) (i : Value) (wr : World) : Prop :=
  ∃ (j : Nat) (s4 : Option Addr) (d4 : Nat) (svj : List Value), i = .int .i64 (j : Int) ∧ j ≤ ns ∧ wr.heap[R7]? = some (.cells #[v1, v2, .slice s4 j d4, v3, .int .i64 0, .slice none 0 0] 63 (0, 0)) ∧
    wr.ownsRow w.heap.size 40 1 (.slice s4 j d4) j svj ∧ (∀ (i : Nat) m l, svj[i]? = some m → S[i]? = some l → wr.ownsRow w.heap.size 42 3 m l.length (bhs l)) ∧
    wr.ownsRow w.heap.size 54 33 v1 n1 (pks P) ∧ wr.ownsRow w.heap.size 54 33 v2 n2 (pks O) ∧ wr.ownsRow w.heap.size 3 1 v3 ns (List.replicate ns (.int .i64 0)) ∧ Kp (fun _ => False) w wr

def RNewPost (w : World) (P O : List Pk) (S : List (List Bh)) (e : Ending) (w' : World) : Prop :=
  ∃ V : RV, e = .returned (.pointer (some ⟨V.b, 0, none⟩)) ∧ RefP w' w.heap.size V (initS P O S) ∧ Kp (fun _ => False) w w'

set_option maxRecDepth 100000 in
set_option maxHeartbeats 8000000 in
theorem rnew_any (w : World) (P O : List Pk) (S : List (List Bh)) (sp1 sp2 sp3 : Option Addr) (c1 c2 c3 : Nat) (sv : List Value) (h1 : Src w 33 sp1 P.length (pks P)) (h2 : Src w 33 sp2 O.length (pks O)) (h3 : Src w 1 sp3 S.length sv)
    (each : ∀ (i : Nat) m l, sv[i]? = some m → S[i]? = some l → ∃ spl cl, m = .slice spl l.length cl ∧ Src w 3 spl l.length (bhs l)) (hok : NOk (initS P O S)) :
    Calls Try.prog 20 #[.slice sp1 P.length c1, .slice sp2 O.length c2, .slice sp3 S.length c3] w (RNewPost w P O S) := by
  have hP : P.length ≤ 1000 := hok.lp
  have hO : O.length ≤ 1000 := hok.lo
  have hS : S.length ≤ 1000 := hok.ls
  obtain ⟨n1, hn1⟩ : ∃ n, n = P.length := ⟨_, rfl⟩
  obtain ⟨n2, hn2⟩ : ∃ n, n = O.length := ⟨_, rfl⟩
  obtain ⟨ns, hns⟩ : ∃ n, n = S.length := ⟨_, rfl⟩
  have HOK := Lib.hid hok
  have EACH := Lib.hid each
  rw [← hn1] at h1 hP ⊢
  rw [← hn2] at h2 hO ⊢
  rw [← hns] at h3 hS ⊢
  have HN1 := Lib.hid hn1
  have HN2 := Lib.hid hn2
  have HNS := Lib.hid hns
  have SRC1 := Lib.hid h1
  have SRC2 := Lib.hid h2
  have SRC3 := Lib.hid h3
  have QM : n1 ≤ maxLen ∧ n2 ≤ maxLen := by unfold maxLen; omega
  obtain ⟨i0, hi, hz0, hz1, hz2⟩ := info_parts info54
  obtain ⟨z54, hz54⟩ : ∃ z, z = (Value.agg (List.replicate 32 (Value.int .u8 0) ++ [Value.string emptyS]).toArray) := ⟨_, rfl⟩
  rw [← hz54] at hz0
  have ZC : Hid (z54.cells.size = 33) := Lib.hid (by rw [hz54]; kernel_rfl)
  clear hn1 hn2 hns h1 h2 h3 hok each hz54
  go_enter Try.func20, Try.ntmps20
  go_upto_region 1 with (fail)
  go_cut [7] (fun s7 wx => New1 w P O ns s7 wx)
  case first =>
    refine wp_region_held_drew (S := Kp (fun _ => False) w) (by kernel_rfl) ((Kp.drew (fun _ => False) w)) (fun hHeld => ?_)
    refine wpAnyH_take (i := 1) (v := ?v1) rfl (by kernel_rfl) (by kernel_rfl) (by kernel_rfl) (fun _ _ _ h => h) (Or.inl ⟨by rfl, ?y1⟩) (by assumption) ?r1
    case y1 =>
      intro wq hSw
      clear hSw
      go_simp
      with_reducible rfl
    simp only [Act.put, List.getElem_toArray, List.getElem_cons_succ, List.getElem_cons_zero, List.setIfInBounds_toArray, List.set_cons_zero, List.set_cons_succ]
    refine wpAnyH_take (i := 4) (v := ?v2) rfl (by kernel_rfl) (by kernel_rfl) (by kernel_rfl) (fun _ _ _ h => h) (Or.inl ⟨by rfl, ?y2⟩) (by assumption) ?r2
    case y2 =>
      intro wq hSw
      clear hSw
      go_simp
      with_reducible rfl
    simp only [Act.put, List.getElem_toArray, List.getElem_cons_succ, List.getElem_cons_zero, List.setIfInBounds_toArray, List.set_cons_zero, List.set_cons_succ]
    refine wpAnyH_take (i := 6) (v := ?v3) rfl (by kernel_rfl) (by kernel_rfl) (by kernel_rfl) (fun _ _ _ h => h) (Or.inl ⟨by rfl, ?y3⟩) (by assumption) ?r3
    case y3 =>
      intro wq hSw
      clear hSw
      go_simp
      with_reducible rfl
    simp only [Act.put, List.getElem_toArray, List.getElem_cons_succ, List.getElem_cons_zero, List.setIfInBounds_toArray, List.set_cons_zero, List.set_cons_succ]
    refine wpAnyH_take (i := 7) (v := ?v4) rfl (by kernel_rfl) (by kernel_rfl) (by kernel_rfl) (fun _ _ _ h => h) (Or.inl ⟨by rfl, ?y4⟩) (by assumption) ?r4
    case y4 =>
      intro wq hSw
      clear hSw
      go_simp
      with_reducible rfl
    simp only [Act.put, List.getElem_toArray, List.getElem_cons_succ, List.getElem_cons_zero, List.setIfInBounds_toArray, List.set_cons_zero, List.set_cons_succ]
    refine wpAnyH_ready (rs := [0, 3, 8]) (by kernel_rfl) (by simp) ?_
    refine AllReadyH.cons rfl (fun K hK => ?_) (AllReadyH.cons rfl (fun K hK => ?_) (AllReadyH.cons rfl (fun K hK => ?_) AllReadyH.nil))
    · have HC1 := Lib.hid hHeld
      rw [if_pos (by rfl)]
      refine opwp_build37 rfl ?_
      intro g9 w1 own9 eg9 sz9 k9
      have HH1 := Lib.hid (HC1.out.trans k9 fun _ (h : False) => h.elim)
      have LT9_1 : Hid (g9 < w1.heap.size) := Lib.hid (by omega)
      have O9_1 := Lib.hid (own_low own9 HC1.out.size)
      have GE9 : w.heap.size ≤ g9 := by have := HC1.out.size; omega
      clear own9 k9
      refine hK.out _ _ HH1.out (fun hHeld => ?_)
      clear hK K hHeld
      refine wpAnyH_ready (rs := [2, 3, 8]) (by kernel_rfl) (by simp) ?_
      refine AllReadyH.cons rfl (fun K hK => ?_) (AllReadyH.cons rfl (fun K hK => ?_) (AllReadyH.cons rfl (fun K hK => ?_) AllReadyH.nil))
      · have HC2 := Lib.hid HH1.out
        rw [if_pos (by rfl)]
        refine wp_append_src _ (.tmp 9) (.tmp 10) 37 rfl w.heap.size 54 i0 z54 33 48 Try.underlying37 hi hz0 hz1 hz2 ZC.out (by decide) (.slice (some ⟨g9, 0, none⟩) 0 0) 0 [] rfl O9_1.out sp1 n1 c1 (pks P) rfl (SRC1.out.keep0 HC2.out) (pks_one _) (by have := QM; omega) (by omega) HC2.out.size ?_
        intro v11 w2 own11 grow11 loc11
        rw [Nat.zero_add, List.nil_append] at own11
        obtain ⟨s11, d11, hv11, _, _, _, _⟩ := Src.of_own own11
        subst hv11
        have k11 := Kp.grown (F := fun q => q = g9) grow11 fun q hq => (Option.some.inj hq).symm
        have HH2 := Lib.hid (HC2.out.trans k11 fun q hq => .inr (by omega))
        have O11_2 := Lib.hid own11
        clear own11 grow11 loc11 k11
        refine hK.out _ _ HH2.out (fun hHeld => ?_)
        clear hK K hHeld
        refine wpAnyH_ready (rs := [3, 8]) (by kernel_rfl) (by simp) ?_
        refine AllReadyH.cons rfl (fun K hK => ?_) (AllReadyH.cons rfl (fun K hK => ?_) AllReadyH.nil)
        · have HC3 := Lib.hid HH2.out
          rw [if_pos (by rfl)]
          refine opwp_build37 rfl ?_
          intro g12 w3 own12 eg12 sz12 k12
          have HH3 := Lib.hid (HC3.out.trans k12 fun _ (h : False) => h.elim)
          have O11_3 := Lib.hid (k12.own O11_2.out fun _ _ h => h)
          have NE11_12 : Hid (∀ q, Value.ownBlock (.slice s11 n1 d11) = some q → q ≠ g12) := Lib.hid fun q hq => by have := (ownsRow_block O11_2.out hq).2.1; omega
          have LT12_3 : Hid (g12 < w3.heap.size) := Lib.hid (by omega)
          have O12_3 := Lib.hid (own_low own12 HC3.out.size)
          have GE12 : w.heap.size ≤ g12 := by have := HC3.out.size; omega
          clear own12 k12
          refine hK.out _ _ HH3.out (fun hHeld => ?_)
          clear hK K hHeld
          refine wpAnyH_ready (rs := [5, 8]) (by kernel_rfl) (by simp) ?_
          refine AllReadyH.cons rfl (fun K hK => ?_) (AllReadyH.cons rfl (fun K hK => ?_) AllReadyH.nil)
          · have HC4 := Lib.hid HH3.out
            rw [if_pos (by rfl)]
            refine wp_append_src _ (.tmp 12) (.tmp 13) 37 rfl w.heap.size 54 i0 z54 33 48 Try.underlying37 hi hz0 hz1 hz2 ZC.out (by decide) (.slice (some ⟨g12, 0, none⟩) 0 0) 0 [] rfl O12_3.out sp2 n2 c2 (pks O) rfl (SRC2.out.keep0 HC4.out) (pks_one _) (by have := QM; omega) (by omega) HC4.out.size ?_
            intro v14 w4 own14 grow14 loc14
            rw [Nat.zero_add, List.nil_append] at own14
            obtain ⟨s14, d14, hv14, _, _, _, _⟩ := Src.of_own own14
            subst hv14
            have k14 := Kp.grown (F := fun q => q = g12) grow14 fun q hq => (Option.some.inj hq).symm
            have HH4 := Lib.hid (HC4.out.trans k14 fun q hq => .inr (by omega))
            have O11_4 := Lib.hid (k14.own O11_3.out fun q hq e => NE11_12.out q hq e)
            have O14_4 := Lib.hid own14
            clear own14 grow14 loc14 k14
            refine hK.out _ _ HH4.out (fun hHeld => ?_)
            clear hK K hHeld
            refine wpAnyH_ready (rs := [8]) (by kernel_rfl) (by simp) ?_
            refine AllReadyH.cons rfl (fun K hK => ?_) AllReadyH.nil
            have HC5 := Lib.hid HH4.out
            rw [if_pos (by rfl)]
            refine opwp_make60 (.tmp 16) rfl ns rfl hS ?_
            intro v17 w5 own17 k17
            obtain ⟨s17, d17, hv17, _, _, _, _⟩ := Src.of_own own17
            subst hv17
            have HH5 := Lib.hid (HC5.out.trans k17 fun _ (h : False) => h.elim)
            have O11_5 := Lib.hid (k17.own O11_4.out fun _ _ h => h)
            have O14_5 := Lib.hid (k17.own O14_4.out fun _ _ h => h)
            have O17_5 := Lib.hid (own_low own17 HC5.out.size)
            clear own17 k17
            refine hK.out _ _ HH5.out (fun hHeld => ?_)
            clear hK K hHeld
            have H11 := Lib.hid O11_5.out
            refine wpAnyH_take (i := 9) (v := ?v5) rfl (by kernel_rfl) (by kernel_rfl) (by kernel_rfl) (fun _ _ _ h => h) (Or.inl ⟨by rfl, ?y5⟩) (by assumption) ?r5
            case y5 =>
              intro wq hSw
              clear hSw
              go_simp
              with_reducible rfl
            simp only [Act.put, List.getElem_toArray, List.getElem_cons_succ, List.getElem_cons_zero, List.setIfInBounds_toArray, List.set_cons_zero, List.set_cons_succ]
            refine wpAnyH_ready (rs := [10]) (by kernel_rfl) (by simp) ?_
            refine AllReadyH.cons rfl (fun K hK => ?_) AllReadyH.nil
            rw [if_pos (by rfl)]
            go_simp
            have HR := Lib.hid (heap_alloc_new w5 (.cells #[.slice s11 n1 d11, .slice s14 n2 d14, .slice none 0 0, .slice s17 ns d17, .int .i64 0, .slice none 0 0] 63))
            have KZ := Lib.hid (Kp.alloc (fun _ => False) w5 (.cells #[.slice s11 n1 d11, .slice s14 n2 d14, .slice none 0 0, .slice s17 ns d17, .int .i64 0, .slice none 0 0] 63))
            refine hK.out _ _ (HH5.out.trans KZ.out fun _ (h : False) => h.elim) (fun hHeld => ?_)
            clear hK K
            refine wpAnyH_take (i := 11) (v := ?v6) rfl (by kernel_rfl) (by kernel_rfl) (by kernel_rfl) (fun _ _ _ h => h) (Or.inl ⟨by rfl, ?y6⟩) (by assumption) ?r6
            case y6 =>
              intro wq hSw
              clear hSw
              go_simp
              with_reducible rfl
            simp only [Act.put, List.getElem_toArray, List.getElem_cons_succ, List.getElem_cons_zero, List.setIfInBounds_toArray, List.set_cons_zero, List.set_cons_succ]
            refine wpAnyH_done (by kernel_rfl) ?_ _
            go_wp2_with fail
            go_meet
            case rel => exact ⟨_, s11, s14, s17, d11, d14, d17, rfl, HH5.out.size, by rw [← HN1.out, ← HN2.out]; exact HR.out, by rw [← HN1.out]; exact KZ.out.own O11_5.out fun _ _ h => h, by rw [← HN2.out]; exact KZ.out.own O14_5.out fun _ _ h => h, KZ.out.own O17_5.out fun _ _ h => h, HH5.out.trans KZ.out fun _ (h : False) => h.elim⟩
          · have HC6 := Lib.hid HH3.out
            rw [if_pos (by rfl)]
            refine opwp_make60 (.tmp 16) rfl ns rfl hS ?_
            intro v17 w6 own17 k17
            obtain ⟨s17, d17, hv17, _, _, _, _⟩ := Src.of_own own17
            subst hv17
            have HH6 := Lib.hid (HC6.out.trans k17 fun _ (h : False) => h.elim)
            have O11_6 := Lib.hid (k17.own O11_3.out fun _ _ h => h)
            have O12_6 := Lib.hid (k17.own O12_3.out fun _ _ h => h)
            have NE17_12 : Hid (∀ q, Value.ownBlock (.slice s17 ns d17) = some q → q ≠ g12) := Lib.hid fun q hq => by have h1 := (ownsRow_block own17 hq).1; have := LT12_3.out; omega
            have LT12_6 : Hid (g12 < w6.heap.size) := Lib.hid (by have := LT12_3.out; have := k17.size; omega)
            have O17_6 := Lib.hid (own_low own17 HC6.out.size)
            clear own17 k17
            refine hK.out _ _ HH6.out (fun hHeld => ?_)
            clear hK K hHeld
            refine wpAnyH_ready (rs := [5]) (by kernel_rfl) (by simp) ?_
            refine AllReadyH.cons rfl (fun K hK => ?_) AllReadyH.nil
            have HC7 := Lib.hid HH6.out
            rw [if_pos (by rfl)]
            refine wp_append_src _ (.tmp 12) (.tmp 13) 37 rfl w.heap.size 54 i0 z54 33 48 Try.underlying37 hi hz0 hz1 hz2 ZC.out (by decide) (.slice (some ⟨g12, 0, none⟩) 0 0) 0 [] rfl O12_6.out sp2 n2 c2 (pks O) rfl (SRC2.out.keep0 HC7.out) (pks_one _) (by have := QM; omega) (by omega) HC7.out.size ?_
            intro v14 w7 own14 grow14 loc14
            rw [Nat.zero_add, List.nil_append] at own14
            obtain ⟨s14, d14, hv14, _, _, _, _⟩ := Src.of_own own14
            subst hv14
            have k14 := Kp.grown (F := fun q => q = g12) grow14 fun q hq => (Option.some.inj hq).symm
            have HH7 := Lib.hid (HC7.out.trans k14 fun q hq => .inr (by omega))
            have O11_7 := Lib.hid (k14.own O11_6.out fun q hq e => NE11_12.out q hq e)
            have O17_7 := Lib.hid (k14.own O17_6.out fun q hq e => NE17_12.out q hq e)
            have O14_7 := Lib.hid own14
            clear own14 grow14 loc14 k14
            refine hK.out _ _ HH7.out (fun hHeld => ?_)
            clear hK K hHeld
            have H11 := Lib.hid O11_7.out
            refine wpAnyH_take (i := 9) (v := ?v7) rfl (by kernel_rfl) (by kernel_rfl) (by kernel_rfl) (fun _ _ _ h => h) (Or.inl ⟨by rfl, ?y7⟩) (by assumption) ?r7
            case y7 =>
              intro wq hSw
              clear hSw
              go_simp
              with_reducible rfl
            simp only [Act.put, List.getElem_toArray, List.getElem_cons_succ, List.getElem_cons_zero, List.setIfInBounds_toArray, List.set_cons_zero, List.set_cons_succ]
            refine wpAnyH_ready (rs := [10]) (by kernel_rfl) (by simp) ?_
            refine AllReadyH.cons rfl (fun K hK => ?_) AllReadyH.nil
            rw [if_pos (by rfl)]
            go_simp
            have HR := Lib.hid (heap_alloc_new w7 (.cells #[.slice s11 n1 d11, .slice s14 n2 d14, .slice none 0 0, .slice s17 ns d17, .int .i64 0, .slice none 0 0] 63))
            have KZ := Lib.hid (Kp.alloc (fun _ => False) w7 (.cells #[.slice s11 n1 d11, .slice s14 n2 d14, .slice none 0 0, .slice s17 ns d17, .int .i64 0, .slice none 0 0] 63))
            refine hK.out _ _ (HH7.out.trans KZ.out fun _ (h : False) => h.elim) (fun hHeld => ?_)
            clear hK K
            refine wpAnyH_take (i := 11) (v := ?v8) rfl (by kernel_rfl) (by kernel_rfl) (by kernel_rfl) (fun _ _ _ h => h) (Or.inl ⟨by rfl, ?y8⟩) (by assumption) ?r8
            case y8 =>
              intro wq hSw
              clear hSw
              go_simp
              with_reducible rfl
            simp only [Act.put, List.getElem_toArray, List.getElem_cons_succ, List.getElem_cons_zero, List.setIfInBounds_toArray, List.set_cons_zero, List.set_cons_succ]
            refine wpAnyH_done (by kernel_rfl) ?_ _
            go_wp2_with fail
            go_meet
            case rel => exact ⟨_, s11, s14, s17, d11, d14, d17, rfl, HH7.out.size, by rw [← HN1.out, ← HN2.out]; exact HR.out, by rw [← HN1.out]; exact KZ.out.own O11_7.out fun _ _ h => h, by rw [← HN2.out]; exact KZ.out.own O14_7.out fun _ _ h => h, KZ.out.own O17_7.out fun _ _ h => h, HH7.out.trans KZ.out fun _ (h : False) => h.elim⟩
        · have HC8 := Lib.hid HH2.out
          rw [if_pos (by rfl)]
          refine opwp_make60 (.tmp 16) rfl ns rfl hS ?_
          intro v17 w8 own17 k17
          obtain ⟨s17, d17, hv17, _, _, _, _⟩ := Src.of_own own17
          subst hv17
          have HH8 := Lib.hid (HC8.out.trans k17 fun _ (h : False) => h.elim)
          have O11_8 := Lib.hid (k17.own O11_2.out fun _ _ h => h)
          have O17_8 := Lib.hid (own_low own17 HC8.out.size)
          clear own17 k17
          refine hK.out _ _ HH8.out (fun hHeld => ?_)
          clear hK K hHeld
          refine wpAnyH_ready (rs := [3]) (by kernel_rfl) (by simp) ?_
          refine AllReadyH.cons rfl (fun K hK => ?_) AllReadyH.nil
          have HC9 := Lib.hid HH8.out
          rw [if_pos (by rfl)]
          refine opwp_build37 rfl ?_
          intro g12 w9 own12 eg12 sz12 k12
          have HH9 := Lib.hid (HC9.out.trans k12 fun _ (h : False) => h.elim)
          have O11_9 := Lib.hid (k12.own O11_8.out fun _ _ h => h)
          have NE11_12 : Hid (∀ q, Value.ownBlock (.slice s11 n1 d11) = some q → q ≠ g12) := Lib.hid fun q hq => by have := (ownsRow_block O11_8.out hq).2.1; omega
          have O17_9 := Lib.hid (k12.own O17_8.out fun _ _ h => h)
          have NE17_12 : Hid (∀ q, Value.ownBlock (.slice s17 ns d17) = some q → q ≠ g12) := Lib.hid fun q hq => by have := (ownsRow_block O17_8.out hq).2.1; omega
          have LT12_9 : Hid (g12 < w9.heap.size) := Lib.hid (by omega)
          have O12_9 := Lib.hid (own_low own12 HC9.out.size)
          have GE12 : w.heap.size ≤ g12 := by have := HC9.out.size; omega
          clear own12 k12
          refine hK.out _ _ HH9.out (fun hHeld => ?_)
          clear hK K hHeld
          refine wpAnyH_ready (rs := [5]) (by kernel_rfl) (by simp) ?_
          refine AllReadyH.cons rfl (fun K hK => ?_) AllReadyH.nil
          have HC10 := Lib.hid HH9.out
          rw [if_pos (by rfl)]
          refine wp_append_src _ (.tmp 12) (.tmp 13) 37 rfl w.heap.size 54 i0 z54 33 48 Try.underlying37 hi hz0 hz1 hz2 ZC.out (by decide) (.slice (some ⟨g12, 0, none⟩) 0 0) 0 [] rfl O12_9.out sp2 n2 c2 (pks O) rfl (SRC2.out.keep0 HC10.out) (pks_one _) (by have := QM; omega) (by omega) HC10.out.size ?_
          intro v14 w10 own14 grow14 loc14
          rw [Nat.zero_add, List.nil_append] at own14
          obtain ⟨s14, d14, hv14, _, _, _, _⟩ := Src.of_own own14
          subst hv14
          have k14 := Kp.grown (F := fun q => q = g12) grow14 fun q hq => (Option.some.inj hq).symm
          have HH10 := Lib.hid (HC10.out.trans k14 fun q hq => .inr (by omega))
          have O11_10 := Lib.hid (k14.own O11_9.out fun q hq e => NE11_12.out q hq e)
          have O17_10 := Lib.hid (k14.own O17_9.out fun q hq e => NE17_12.out q hq e)
          have O14_10 := Lib.hid own14
          clear own14 grow14 loc14 k14
          refine hK.out _ _ HH10.out (fun hHeld => ?_)
          clear hK K hHeld
          have H11 := Lib.hid O11_10.out
          refine wpAnyH_take (i := 9) (v := ?v9) rfl (by kernel_rfl) (by kernel_rfl) (by kernel_rfl) (fun _ _ _ h => h) (Or.inl ⟨by rfl, ?y9⟩) (by assumption) ?r9
          case y9 =>
            intro wq hSw
            clear hSw
            go_simp
            with_reducible rfl
          simp only [Act.put, List.getElem_toArray, List.getElem_cons_succ, List.getElem_cons_zero, List.setIfInBounds_toArray, List.set_cons_zero, List.set_cons_succ]
          refine wpAnyH_ready (rs := [10]) (by kernel_rfl) (by simp) ?_
          refine AllReadyH.cons rfl (fun K hK => ?_) AllReadyH.nil
          rw [if_pos (by rfl)]
          go_simp
          have HR := Lib.hid (heap_alloc_new w10 (.cells #[.slice s11 n1 d11, .slice s14 n2 d14, .slice none 0 0, .slice s17 ns d17, .int .i64 0, .slice none 0 0] 63))
          have KZ := Lib.hid (Kp.alloc (fun _ => False) w10 (.cells #[.slice s11 n1 d11, .slice s14 n2 d14, .slice none 0 0, .slice s17 ns d17, .int .i64 0, .slice none 0 0] 63))
          refine hK.out _ _ (HH10.out.trans KZ.out fun _ (h : False) => h.elim) (fun hHeld => ?_)
          clear hK K
          refine wpAnyH_take (i := 11) (v := ?v10) rfl (by kernel_rfl) (by kernel_rfl) (by kernel_rfl) (fun _ _ _ h => h) (Or.inl ⟨by rfl, ?y10⟩) (by assumption) ?r10
          case y10 =>
            intro wq hSw
            clear hSw
            go_simp
            with_reducible rfl
          simp only [Act.put, List.getElem_toArray, List.getElem_cons_succ, List.getElem_cons_zero, List.setIfInBounds_toArray, List.set_cons_zero, List.set_cons_succ]
          refine wpAnyH_done (by kernel_rfl) ?_ _
          go_wp2_with fail
          go_meet
          case rel => exact ⟨_, s11, s14, s17, d11, d14, d17, rfl, HH10.out.size, by rw [← HN1.out, ← HN2.out]; exact HR.out, by rw [← HN1.out]; exact KZ.out.own O11_10.out fun _ _ h => h, by rw [← HN2.out]; exact KZ.out.own O14_10.out fun _ _ h => h, KZ.out.own O17_10.out fun _ _ h => h, HH10.out.trans KZ.out fun _ (h : False) => h.elim⟩
      · have HC11 := Lib.hid HH1.out
        rw [if_pos (by rfl)]
        refine opwp_build37 rfl ?_
        intro g12 w11 own12 eg12 sz12 k12
        have HH11 := Lib.hid (HC11.out.trans k12 fun _ (h : False) => h.elim)
        have O9_11 := Lib.hid (k12.own O9_1.out fun _ _ h => h)
        have NE9_12 : Hid (∀ q, Value.ownBlock (.slice (some ⟨g9, 0, none⟩) 0 0) = some q → q ≠ g12) := Lib.hid fun q hq => by have := (ownsRow_block O9_1.out hq).2.1; omega
        have NE12_9 : Hid (∀ q, Value.ownBlock (.slice (some ⟨g12, 0, none⟩) 0 0) = some q → q ≠ g9) := Lib.hid fun q hq => by have := LT9_1.out; have e : some g12 = some q := hq; cases e; omega
        have LT9_11 : Hid (g9 < w11.heap.size) := Lib.hid (by have := LT9_1.out; omega)
        have LT12_11 : Hid (g12 < w11.heap.size) := Lib.hid (by omega)
        have O12_11 := Lib.hid (own_low own12 HC11.out.size)
        have GE12 : w.heap.size ≤ g12 := by have := HC11.out.size; omega
        clear own12 k12
        refine hK.out _ _ HH11.out (fun hHeld => ?_)
        clear hK K hHeld
        refine wpAnyH_ready (rs := [2, 8]) (by kernel_rfl) (by simp) ?_
        refine AllReadyH.cons rfl (fun K hK => ?_) (AllReadyH.cons rfl (fun K hK => ?_) AllReadyH.nil)
        · have HC12 := Lib.hid HH11.out
          rw [if_pos (by rfl)]
          refine wp_append_src _ (.tmp 9) (.tmp 10) 37 rfl w.heap.size 54 i0 z54 33 48 Try.underlying37 hi hz0 hz1 hz2 ZC.out (by decide) (.slice (some ⟨g9, 0, none⟩) 0 0) 0 [] rfl O9_11.out sp1 n1 c1 (pks P) rfl (SRC1.out.keep0 HC12.out) (pks_one _) (by have := QM; omega) (by omega) HC12.out.size ?_
          intro v11 w12 own11 grow11 loc11
          rw [Nat.zero_add, List.nil_append] at own11
          obtain ⟨s11, d11, hv11, _, _, _, _⟩ := Src.of_own own11
          subst hv11
          have k11 := Kp.grown (F := fun q => q = g9) grow11 fun q hq => (Option.some.inj hq).symm
          have HH12 := Lib.hid (HC12.out.trans k11 fun q hq => .inr (by omega))
          have O12_12 := Lib.hid (k11.own O12_11.out fun q hq e => NE12_9.out q hq e)
          have LT12_12 : Hid (g12 < w12.heap.size) := Lib.hid (by have := LT12_11.out; have := k11.size; omega)
          have NE11_12 : Hid (∀ q, Value.ownBlock (.slice s11 n1 d11) = some q → q ≠ g12) := Lib.hid fun q hq => by have h1 := LT12_11.out; rcases loc11 with h2 | h2 <;> rw [hq] at h2 ; exact NE9_12.out q (by rw [h2]); have e := Option.some.inj h2; omega
          have O11_12 := Lib.hid own11
          clear own11 grow11 loc11 k11
          refine hK.out _ _ HH12.out (fun hHeld => ?_)
          clear hK K hHeld
          refine wpAnyH_ready (rs := [5, 8]) (by kernel_rfl) (by simp) ?_
          refine AllReadyH.cons rfl (fun K hK => ?_) (AllReadyH.cons rfl (fun K hK => ?_) AllReadyH.nil)
          · have HC13 := Lib.hid HH12.out
            rw [if_pos (by rfl)]
            refine wp_append_src _ (.tmp 12) (.tmp 13) 37 rfl w.heap.size 54 i0 z54 33 48 Try.underlying37 hi hz0 hz1 hz2 ZC.out (by decide) (.slice (some ⟨g12, 0, none⟩) 0 0) 0 [] rfl O12_12.out sp2 n2 c2 (pks O) rfl (SRC2.out.keep0 HC13.out) (pks_one _) (by have := QM; omega) (by omega) HC13.out.size ?_
            intro v14 w13 own14 grow14 loc14
            rw [Nat.zero_add, List.nil_append] at own14
            obtain ⟨s14, d14, hv14, _, _, _, _⟩ := Src.of_own own14
            subst hv14
            have k14 := Kp.grown (F := fun q => q = g12) grow14 fun q hq => (Option.some.inj hq).symm
            have HH13 := Lib.hid (HC13.out.trans k14 fun q hq => .inr (by omega))
            have O11_13 := Lib.hid (k14.own O11_12.out fun q hq e => NE11_12.out q hq e)
            have O14_13 := Lib.hid own14
            clear own14 grow14 loc14 k14
            refine hK.out _ _ HH13.out (fun hHeld => ?_)
            clear hK K hHeld
            refine wpAnyH_ready (rs := [8]) (by kernel_rfl) (by simp) ?_
            refine AllReadyH.cons rfl (fun K hK => ?_) AllReadyH.nil
            have HC14 := Lib.hid HH13.out
            rw [if_pos (by rfl)]
            refine opwp_make60 (.tmp 16) rfl ns rfl hS ?_
            intro v17 w14 own17 k17
            obtain ⟨s17, d17, hv17, _, _, _, _⟩ := Src.of_own own17
            subst hv17
            have HH14 := Lib.hid (HC14.out.trans k17 fun _ (h : False) => h.elim)
            have O11_14 := Lib.hid (k17.own O11_13.out fun _ _ h => h)
            have O14_14 := Lib.hid (k17.own O14_13.out fun _ _ h => h)
            have O17_14 := Lib.hid (own_low own17 HC14.out.size)
            clear own17 k17
            refine hK.out _ _ HH14.out (fun hHeld => ?_)
            clear hK K hHeld
            have H11 := Lib.hid O11_14.out
            refine wpAnyH_take (i := 9) (v := ?v11) rfl (by kernel_rfl) (by kernel_rfl) (by kernel_rfl) (fun _ _ _ h => h) (Or.inl ⟨by rfl, ?y11⟩) (by assumption) ?r11
            case y11 =>
              intro wq hSw
              clear hSw
              go_simp
              with_reducible rfl
            simp only [Act.put, List.getElem_toArray, List.getElem_cons_succ, List.getElem_cons_zero, List.setIfInBounds_toArray, List.set_cons_zero, List.set_cons_succ]
            refine wpAnyH_ready (rs := [10]) (by kernel_rfl) (by simp) ?_
            refine AllReadyH.cons rfl (fun K hK => ?_) AllReadyH.nil
            rw [if_pos (by rfl)]
            go_simp
            have HR := Lib.hid (heap_alloc_new w14 (.cells #[.slice s11 n1 d11, .slice s14 n2 d14, .slice none 0 0, .slice s17 ns d17, .int .i64 0, .slice none 0 0] 63))
            have KZ := Lib.hid (Kp.alloc (fun _ => False) w14 (.cells #[.slice s11 n1 d11, .slice s14 n2 d14, .slice none 0 0, .slice s17 ns d17, .int .i64 0, .slice none 0 0] 63))
            refine hK.out _ _ (HH14.out.trans KZ.out fun _ (h : False) => h.elim) (fun hHeld => ?_)
            clear hK K
            refine wpAnyH_take (i := 11) (v := ?v12) rfl (by kernel_rfl) (by kernel_rfl) (by kernel_rfl) (fun _ _ _ h => h) (Or.inl ⟨by rfl, ?y12⟩) (by assumption) ?r12
            case y12 =>
              intro wq hSw
              clear hSw
              go_simp
              with_reducible rfl
            simp only [Act.put, List.getElem_toArray, List.getElem_cons_succ, List.getElem_cons_zero, List.setIfInBounds_toArray, List.set_cons_zero, List.set_cons_succ]
            refine wpAnyH_done (by kernel_rfl) ?_ _
            go_wp2_with fail
            go_meet
            case rel => exact ⟨_, s11, s14, s17, d11, d14, d17, rfl, HH14.out.size, by rw [← HN1.out, ← HN2.out]; exact HR.out, by rw [← HN1.out]; exact KZ.out.own O11_14.out fun _ _ h => h, by rw [← HN2.out]; exact KZ.out.own O14_14.out fun _ _ h => h, KZ.out.own O17_14.out fun _ _ h => h, HH14.out.trans KZ.out fun _ (h : False) => h.elim⟩
          · have HC15 := Lib.hid HH12.out
            rw [if_pos (by rfl)]
            refine opwp_make60 (.tmp 16) rfl ns rfl hS ?_
            intro v17 w15 own17 k17
            obtain ⟨s17, d17, hv17, _, _, _, _⟩ := Src.of_own own17
            subst hv17
            have HH15 := Lib.hid (HC15.out.trans k17 fun _ (h : False) => h.elim)
            have O12_15 := Lib.hid (k17.own O12_12.out fun _ _ h => h)
            have O11_15 := Lib.hid (k17.own O11_12.out fun _ _ h => h)
            have NE17_12 : Hid (∀ q, Value.ownBlock (.slice s17 ns d17) = some q → q ≠ g12) := Lib.hid fun q hq => by have h1 := (ownsRow_block own17 hq).1; have := LT12_12.out; omega
            have LT12_15 : Hid (g12 < w15.heap.size) := Lib.hid (by have := LT12_12.out; have := k17.size; omega)
            have O17_15 := Lib.hid (own_low own17 HC15.out.size)
            clear own17 k17
            refine hK.out _ _ HH15.out (fun hHeld => ?_)
            clear hK K hHeld
            refine wpAnyH_ready (rs := [5]) (by kernel_rfl) (by simp) ?_
            refine AllReadyH.cons rfl (fun K hK => ?_) AllReadyH.nil
            have HC16 := Lib.hid HH15.out
            rw [if_pos (by rfl)]
            refine wp_append_src _ (.tmp 12) (.tmp 13) 37 rfl w.heap.size 54 i0 z54 33 48 Try.underlying37 hi hz0 hz1 hz2 ZC.out (by decide) (.slice (some ⟨g12, 0, none⟩) 0 0) 0 [] rfl O12_15.out sp2 n2 c2 (pks O) rfl (SRC2.out.keep0 HC16.out) (pks_one _) (by have := QM; omega) (by omega) HC16.out.size ?_
            intro v14 w16 own14 grow14 loc14
            rw [Nat.zero_add, List.nil_append] at own14
            obtain ⟨s14, d14, hv14, _, _, _, _⟩ := Src.of_own own14
            subst hv14
            have k14 := Kp.grown (F := fun q => q = g12) grow14 fun q hq => (Option.some.inj hq).symm
            have HH16 := Lib.hid (HC16.out.trans k14 fun q hq => .inr (by omega))
            have O11_16 := Lib.hid (k14.own O11_15.out fun q hq e => NE11_12.out q hq e)
            have O17_16 := Lib.hid (k14.own O17_15.out fun q hq e => NE17_12.out q hq e)
            have O14_16 := Lib.hid own14
            clear own14 grow14 loc14 k14
            refine hK.out _ _ HH16.out (fun hHeld => ?_)
            clear hK K hHeld
            have H11 := Lib.hid O11_16.out
            refine wpAnyH_take (i := 9) (v := ?v13) rfl (by kernel_rfl) (by kernel_rfl) (by kernel_rfl) (fun _ _ _ h => h) (Or.inl ⟨by rfl, ?y13⟩) (by assumption) ?r13
            case y13 =>
              intro wq hSw
              clear hSw
              go_simp
              with_reducible rfl
            simp only [Act.put, List.getElem_toArray, List.getElem_cons_succ, List.getElem_cons_zero, List.setIfInBounds_toArray, List.set_cons_zero, List.set_cons_succ]
            refine wpAnyH_ready (rs := [10]) (by kernel_rfl) (by simp) ?_
            refine AllReadyH.cons rfl (fun K hK => ?_) AllReadyH.nil
            rw [if_pos (by rfl)]
            go_simp
            have HR := Lib.hid (heap_alloc_new w16 (.cells #[.slice s11 n1 d11, .slice s14 n2 d14, .slice none 0 0, .slice s17 ns d17, .int .i64 0, .slice none 0 0] 63))
            have KZ := Lib.hid (Kp.alloc (fun _ => False) w16 (.cells #[.slice s11 n1 d11, .slice s14 n2 d14, .slice none 0 0, .slice s17 ns d17, .int .i64 0, .slice none 0 0] 63))
            refine hK.out _ _ (HH16.out.trans KZ.out fun _ (h : False) => h.elim) (fun hHeld => ?_)
            clear hK K
            refine wpAnyH_take (i := 11) (v := ?v14) rfl (by kernel_rfl) (by kernel_rfl) (by kernel_rfl) (fun _ _ _ h => h) (Or.inl ⟨by rfl, ?y14⟩) (by assumption) ?r14
            case y14 =>
              intro wq hSw
              clear hSw
              go_simp
              with_reducible rfl
            simp only [Act.put, List.getElem_toArray, List.getElem_cons_succ, List.getElem_cons_zero, List.setIfInBounds_toArray, List.set_cons_zero, List.set_cons_succ]
            refine wpAnyH_done (by kernel_rfl) ?_ _
            go_wp2_with fail
            go_meet
            case rel => exact ⟨_, s11, s14, s17, d11, d14, d17, rfl, HH16.out.size, by rw [← HN1.out, ← HN2.out]; exact HR.out, by rw [← HN1.out]; exact KZ.out.own O11_16.out fun _ _ h => h, by rw [← HN2.out]; exact KZ.out.own O14_16.out fun _ _ h => h, KZ.out.own O17_16.out fun _ _ h => h, HH16.out.trans KZ.out fun _ (h : False) => h.elim⟩
        · have HC17 := Lib.hid HH11.out
          rw [if_pos (by rfl)]
          refine opwp_make60 (.tmp 16) rfl ns rfl hS ?_
          intro v17 w17 own17 k17
          obtain ⟨s17, d17, hv17, _, _, _, _⟩ := Src.of_own own17
          subst hv17
          have HH17 := Lib.hid (HC17.out.trans k17 fun _ (h : False) => h.elim)
          have O9_17 := Lib.hid (k17.own O9_11.out fun _ _ h => h)
          have O12_17 := Lib.hid (k17.own O12_11.out fun _ _ h => h)
          have NE17_9 : Hid (∀ q, Value.ownBlock (.slice s17 ns d17) = some q → q ≠ g9) := Lib.hid fun q hq => by have h1 := (ownsRow_block own17 hq).1; have := LT9_11.out; omega
          have LT9_17 : Hid (g9 < w17.heap.size) := Lib.hid (by have := LT9_11.out; have := k17.size; omega)
          have NE17_12 : Hid (∀ q, Value.ownBlock (.slice s17 ns d17) = some q → q ≠ g12) := Lib.hid fun q hq => by have h1 := (ownsRow_block own17 hq).1; have := LT12_11.out; omega
          have LT12_17 : Hid (g12 < w17.heap.size) := Lib.hid (by have := LT12_11.out; have := k17.size; omega)
          have O17_17 := Lib.hid (own_low own17 HC17.out.size)
          clear own17 k17
          refine hK.out _ _ HH17.out (fun hHeld => ?_)
          clear hK K hHeld
          refine wpAnyH_ready (rs := [2]) (by kernel_rfl) (by simp) ?_
          refine AllReadyH.cons rfl (fun K hK => ?_) AllReadyH.nil
          have HC18 := Lib.hid HH17.out
          rw [if_pos (by rfl)]
          refine wp_append_src _ (.tmp 9) (.tmp 10) 37 rfl w.heap.size 54 i0 z54 33 48 Try.underlying37 hi hz0 hz1 hz2 ZC.out (by decide) (.slice (some ⟨g9, 0, none⟩) 0 0) 0 [] rfl O9_17.out sp1 n1 c1 (pks P) rfl (SRC1.out.keep0 HC18.out) (pks_one _) (by have := QM; omega) (by omega) HC18.out.size ?_
          intro v11 w18 own11 grow11 loc11
          rw [Nat.zero_add, List.nil_append] at own11
          obtain ⟨s11, d11, hv11, _, _, _, _⟩ := Src.of_own own11
          subst hv11
          have k11 := Kp.grown (F := fun q => q = g9) grow11 fun q hq => (Option.some.inj hq).symm
          have HH18 := Lib.hid (HC18.out.trans k11 fun q hq => .inr (by omega))
          have O12_18 := Lib.hid (k11.own O12_17.out fun q hq e => NE12_9.out q hq e)
          have O17_18 := Lib.hid (k11.own O17_17.out fun q hq e => NE17_9.out q hq e)
          have LT12_18 : Hid (g12 < w18.heap.size) := Lib.hid (by have := LT12_17.out; have := k11.size; omega)
          have NE11_12 : Hid (∀ q, Value.ownBlock (.slice s11 n1 d11) = some q → q ≠ g12) := Lib.hid fun q hq => by have h1 := LT12_17.out; rcases loc11 with h2 | h2 <;> rw [hq] at h2 ; exact NE9_12.out q (by rw [h2]); have e := Option.some.inj h2; omega
          have O11_18 := Lib.hid own11
          clear own11 grow11 loc11 k11
          refine hK.out _ _ HH18.out (fun hHeld => ?_)
          clear hK K hHeld
          refine wpAnyH_ready (rs := [5]) (by kernel_rfl) (by simp) ?_
          refine AllReadyH.cons rfl (fun K hK => ?_) AllReadyH.nil
          have HC19 := Lib.hid HH18.out
          rw [if_pos (by rfl)]
          refine wp_append_src _ (.tmp 12) (.tmp 13) 37 rfl w.heap.size 54 i0 z54 33 48 Try.underlying37 hi hz0 hz1 hz2 ZC.out (by decide) (.slice (some ⟨g12, 0, none⟩) 0 0) 0 [] rfl O12_18.out sp2 n2 c2 (pks O) rfl (SRC2.out.keep0 HC19.out) (pks_one _) (by have := QM; omega) (by omega) HC19.out.size ?_
          intro v14 w19 own14 grow14 loc14
          rw [Nat.zero_add, List.nil_append] at own14
          obtain ⟨s14, d14, hv14, _, _, _, _⟩ := Src.of_own own14
          subst hv14
          have k14 := Kp.grown (F := fun q => q = g12) grow14 fun q hq => (Option.some.inj hq).symm
          have HH19 := Lib.hid (HC19.out.trans k14 fun q hq => .inr (by omega))
          have O17_19 := Lib.hid (k14.own O17_18.out fun q hq e => NE17_12.out q hq e)
          have O11_19 := Lib.hid (k14.own O11_18.out fun q hq e => NE11_12.out q hq e)
          have O14_19 := Lib.hid own14
          clear own14 grow14 loc14 k14
          refine hK.out _ _ HH19.out (fun hHeld => ?_)
          clear hK K hHeld
          have H11 := Lib.hid O11_19.out
          refine wpAnyH_take (i := 9) (v := ?v15) rfl (by kernel_rfl) (by kernel_rfl) (by kernel_rfl) (fun _ _ _ h => h) (Or.inl ⟨by rfl, ?y15⟩) (by assumption) ?r15
          case y15 =>
            intro wq hSw
            clear hSw
            go_simp
            with_reducible rfl
          simp only [Act.put, List.getElem_toArray, List.getElem_cons_succ, List.getElem_cons_zero, List.setIfInBounds_toArray, List.set_cons_zero, List.set_cons_succ]
          refine wpAnyH_ready (rs := [10]) (by kernel_rfl) (by simp) ?_
          refine AllReadyH.cons rfl (fun K hK => ?_) AllReadyH.nil
          rw [if_pos (by rfl)]
          go_simp
          have HR := Lib.hid (heap_alloc_new w19 (.cells #[.slice s11 n1 d11, .slice s14 n2 d14, .slice none 0 0, .slice s17 ns d17, .int .i64 0, .slice none 0 0] 63))
          have KZ := Lib.hid (Kp.alloc (fun _ => False) w19 (.cells #[.slice s11 n1 d11, .slice s14 n2 d14, .slice none 0 0, .slice s17 ns d17, .int .i64 0, .slice none 0 0] 63))
          refine hK.out _ _ (HH19.out.trans KZ.out fun _ (h : False) => h.elim) (fun hHeld => ?_)
          clear hK K
          refine wpAnyH_take (i := 11) (v := ?v16) rfl (by kernel_rfl) (by kernel_rfl) (by kernel_rfl) (fun _ _ _ h => h) (Or.inl ⟨by rfl, ?y16⟩) (by assumption) ?r16
          case y16 =>
            intro wq hSw
            clear hSw
            go_simp
            with_reducible rfl
          simp only [Act.put, List.getElem_toArray, List.getElem_cons_succ, List.getElem_cons_zero, List.setIfInBounds_toArray, List.set_cons_zero, List.set_cons_succ]
          refine wpAnyH_done (by kernel_rfl) ?_ _
          go_wp2_with fail
          go_meet
          case rel => exact ⟨_, s11, s14, s17, d11, d14, d17, rfl, HH19.out.size, by rw [← HN1.out, ← HN2.out]; exact HR.out, by rw [← HN1.out]; exact KZ.out.own O11_19.out fun _ _ h => h, by rw [← HN2.out]; exact KZ.out.own O14_19.out fun _ _ h => h, KZ.out.own O17_19.out fun _ _ h => h, HH19.out.trans KZ.out fun _ (h : False) => h.elim⟩
      · have HC20 := Lib.hid HH1.out
        rw [if_pos (by rfl)]
        refine opwp_make60 (.tmp 16) rfl ns rfl hS ?_
        intro v17 w20 own17 k17
        obtain ⟨s17, d17, hv17, _, _, _, _⟩ := Src.of_own own17
        subst hv17
        have HH20 := Lib.hid (HC20.out.trans k17 fun _ (h : False) => h.elim)
        have O9_20 := Lib.hid (k17.own O9_1.out fun _ _ h => h)
        have NE17_9 : Hid (∀ q, Value.ownBlock (.slice s17 ns d17) = some q → q ≠ g9) := Lib.hid fun q hq => by have h1 := (ownsRow_block own17 hq).1; have := LT9_1.out; omega
        have LT9_20 : Hid (g9 < w20.heap.size) := Lib.hid (by have := LT9_1.out; have := k17.size; omega)
        have O17_20 := Lib.hid (own_low own17 HC20.out.size)
        clear own17 k17
        refine hK.out _ _ HH20.out (fun hHeld => ?_)
        clear hK K hHeld
        refine wpAnyH_ready (rs := [2, 3]) (by kernel_rfl) (by simp) ?_
        refine AllReadyH.cons rfl (fun K hK => ?_) (AllReadyH.cons rfl (fun K hK => ?_) AllReadyH.nil)
        · have HC21 := Lib.hid HH20.out
          rw [if_pos (by rfl)]
          refine wp_append_src _ (.tmp 9) (.tmp 10) 37 rfl w.heap.size 54 i0 z54 33 48 Try.underlying37 hi hz0 hz1 hz2 ZC.out (by decide) (.slice (some ⟨g9, 0, none⟩) 0 0) 0 [] rfl O9_20.out sp1 n1 c1 (pks P) rfl (SRC1.out.keep0 HC21.out) (pks_one _) (by have := QM; omega) (by omega) HC21.out.size ?_
          intro v11 w21 own11 grow11 loc11
          rw [Nat.zero_add, List.nil_append] at own11
          obtain ⟨s11, d11, hv11, _, _, _, _⟩ := Src.of_own own11
          subst hv11
          have k11 := Kp.grown (F := fun q => q = g9) grow11 fun q hq => (Option.some.inj hq).symm
          have HH21 := Lib.hid (HC21.out.trans k11 fun q hq => .inr (by omega))
          have O17_21 := Lib.hid (k11.own O17_20.out fun q hq e => NE17_9.out q hq e)
          have O11_21 := Lib.hid own11
          clear own11 grow11 loc11 k11
          refine hK.out _ _ HH21.out (fun hHeld => ?_)
          clear hK K hHeld
          refine wpAnyH_ready (rs := [3]) (by kernel_rfl) (by simp) ?_
          refine AllReadyH.cons rfl (fun K hK => ?_) AllReadyH.nil
          have HC22 := Lib.hid HH21.out
          rw [if_pos (by rfl)]
          refine opwp_build37 rfl ?_
          intro g12 w22 own12 eg12 sz12 k12
          have HH22 := Lib.hid (HC22.out.trans k12 fun _ (h : False) => h.elim)
          have O17_22 := Lib.hid (k12.own O17_21.out fun _ _ h => h)
          have NE17_12 : Hid (∀ q, Value.ownBlock (.slice s17 ns d17) = some q → q ≠ g12) := Lib.hid fun q hq => by have := (ownsRow_block O17_21.out hq).2.1; omega
          have O11_22 := Lib.hid (k12.own O11_21.out fun _ _ h => h)
          have NE11_12 : Hid (∀ q, Value.ownBlock (.slice s11 n1 d11) = some q → q ≠ g12) := Lib.hid fun q hq => by have := (ownsRow_block O11_21.out hq).2.1; omega
          have LT12_22 : Hid (g12 < w22.heap.size) := Lib.hid (by omega)
          have O12_22 := Lib.hid (own_low own12 HC22.out.size)
          have GE12 : w.heap.size ≤ g12 := by have := HC22.out.size; omega
          clear own12 k12
          refine hK.out _ _ HH22.out (fun hHeld => ?_)
          clear hK K hHeld
          refine wpAnyH_ready (rs := [5]) (by kernel_rfl) (by simp) ?_
          refine AllReadyH.cons rfl (fun K hK => ?_) AllReadyH.nil
          have HC23 := Lib.hid HH22.out
          rw [if_pos (by rfl)]
          refine wp_append_src _ (.tmp 12) (.tmp 13) 37 rfl w.heap.size 54 i0 z54 33 48 Try.underlying37 hi hz0 hz1 hz2 ZC.out (by decide) (.slice (some ⟨g12, 0, none⟩) 0 0) 0 [] rfl O12_22.out sp2 n2 c2 (pks O) rfl (SRC2.out.keep0 HC23.out) (pks_one _) (by have := QM; omega) (by omega) HC23.out.size ?_
          intro v14 w23 own14 grow14 loc14
          rw [Nat.zero_add, List.nil_append] at own14
          obtain ⟨s14, d14, hv14, _, _, _, _⟩ := Src.of_own own14
          subst hv14
          have k14 := Kp.grown (F := fun q => q = g12) grow14 fun q hq => (Option.some.inj hq).symm
          have HH23 := Lib.hid (HC23.out.trans k14 fun q hq => .inr (by omega))
          have O17_23 := Lib.hid (k14.own O17_22.out fun q hq e => NE17_12.out q hq e)
          have O11_23 := Lib.hid (k14.own O11_22.out fun q hq e => NE11_12.out q hq e)
          have O14_23 := Lib.hid own14
          clear own14 grow14 loc14 k14
          refine hK.out _ _ HH23.out (fun hHeld => ?_)
          clear hK K hHeld
          have H11 := Lib.hid O11_23.out
          refine wpAnyH_take (i := 9) (v := ?v17) rfl (by kernel_rfl) (by kernel_rfl) (by kernel_rfl) (fun _ _ _ h => h) (Or.inl ⟨by rfl, ?y17⟩) (by assumption) ?r17
          case y17 =>
            intro wq hSw
            clear hSw
            go_simp
            with_reducible rfl
          simp only [Act.put, List.getElem_toArray, List.getElem_cons_succ, List.getElem_cons_zero, List.setIfInBounds_toArray, List.set_cons_zero, List.set_cons_succ]
          refine wpAnyH_ready (rs := [10]) (by kernel_rfl) (by simp) ?_
          refine AllReadyH.cons rfl (fun K hK => ?_) AllReadyH.nil
          rw [if_pos (by rfl)]
          go_simp
          have HR := Lib.hid (heap_alloc_new w23 (.cells #[.slice s11 n1 d11, .slice s14 n2 d14, .slice none 0 0, .slice s17 ns d17, .int .i64 0, .slice none 0 0] 63))
          have KZ := Lib.hid (Kp.alloc (fun _ => False) w23 (.cells #[.slice s11 n1 d11, .slice s14 n2 d14, .slice none 0 0, .slice s17 ns d17, .int .i64 0, .slice none 0 0] 63))
          refine hK.out _ _ (HH23.out.trans KZ.out fun _ (h : False) => h.elim) (fun hHeld => ?_)
          clear hK K
          refine wpAnyH_take (i := 11) (v := ?v18) rfl (by kernel_rfl) (by kernel_rfl) (by kernel_rfl) (fun _ _ _ h => h) (Or.inl ⟨by rfl, ?y18⟩) (by assumption) ?r18
          case y18 =>
            intro wq hSw
            clear hSw
            go_simp
            with_reducible rfl
          simp only [Act.put, List.getElem_toArray, List.getElem_cons_succ, List.getElem_cons_zero, List.setIfInBounds_toArray, List.set_cons_zero, List.set_cons_succ]
          refine wpAnyH_done (by kernel_rfl) ?_ _
          go_wp2_with fail
          go_meet
          case rel => exact ⟨_, s11, s14, s17, d11, d14, d17, rfl, HH23.out.size, by rw [← HN1.out, ← HN2.out]; exact HR.out, by rw [← HN1.out]; exact KZ.out.own O11_23.out fun _ _ h => h, by rw [← HN2.out]; exact KZ.out.own O14_23.out fun _ _ h => h, KZ.out.own O17_23.out fun _ _ h => h, HH23.out.trans KZ.out fun _ (h : False) => h.elim⟩
        · have HC24 := Lib.hid HH20.out
          rw [if_pos (by rfl)]
          refine opwp_build37 rfl ?_
          intro g12 w24 own12 eg12 sz12 k12
          have HH24 := Lib.hid (HC24.out.trans k12 fun _ (h : False) => h.elim)
          have O9_24 := Lib.hid (k12.own O9_20.out fun _ _ h => h)
          have NE9_12 : Hid (∀ q, Value.ownBlock (.slice (some ⟨g9, 0, none⟩) 0 0) = some q → q ≠ g12) := Lib.hid fun q hq => by have := (ownsRow_block O9_20.out hq).2.1; omega
          have O17_24 := Lib.hid (k12.own O17_20.out fun _ _ h => h)
          have NE17_12 : Hid (∀ q, Value.ownBlock (.slice s17 ns d17) = some q → q ≠ g12) := Lib.hid fun q hq => by have := (ownsRow_block O17_20.out hq).2.1; omega
          have NE12_9 : Hid (∀ q, Value.ownBlock (.slice (some ⟨g12, 0, none⟩) 0 0) = some q → q ≠ g9) := Lib.hid fun q hq => by have := LT9_20.out; have e : some g12 = some q := hq; cases e; omega
          have LT9_24 : Hid (g9 < w24.heap.size) := Lib.hid (by have := LT9_20.out; omega)
          have LT12_24 : Hid (g12 < w24.heap.size) := Lib.hid (by omega)
          have O12_24 := Lib.hid (own_low own12 HC24.out.size)
          have GE12 : w.heap.size ≤ g12 := by have := HC24.out.size; omega
          clear own12 k12
          refine hK.out _ _ HH24.out (fun hHeld => ?_)
          clear hK K hHeld
          refine wpAnyH_ready (rs := [2]) (by kernel_rfl) (by simp) ?_
          refine AllReadyH.cons rfl (fun K hK => ?_) AllReadyH.nil
          have HC25 := Lib.hid HH24.out
          rw [if_pos (by rfl)]
          refine wp_append_src _ (.tmp 9) (.tmp 10) 37 rfl w.heap.size 54 i0 z54 33 48 Try.underlying37 hi hz0 hz1 hz2 ZC.out (by decide) (.slice (some ⟨g9, 0, none⟩) 0 0) 0 [] rfl O9_24.out sp1 n1 c1 (pks P) rfl (SRC1.out.keep0 HC25.out) (pks_one _) (by have := QM; omega) (by omega) HC25.out.size ?_
          intro v11 w25 own11 grow11 loc11
          rw [Nat.zero_add, List.nil_append] at own11
          obtain ⟨s11, d11, hv11, _, _, _, _⟩ := Src.of_own own11
          subst hv11
          have k11 := Kp.grown (F := fun q => q = g9) grow11 fun q hq => (Option.some.inj hq).symm
          have HH25 := Lib.hid (HC25.out.trans k11 fun q hq => .inr (by omega))
          have O17_25 := Lib.hid (k11.own O17_24.out fun q hq e => NE17_9.out q hq e)
          have O12_25 := Lib.hid (k11.own O12_24.out fun q hq e => NE12_9.out q hq e)
          have LT12_25 : Hid (g12 < w25.heap.size) := Lib.hid (by have := LT12_24.out; have := k11.size; omega)
          have NE11_12 : Hid (∀ q, Value.ownBlock (.slice s11 n1 d11) = some q → q ≠ g12) := Lib.hid fun q hq => by have h1 := LT12_24.out; rcases loc11 with h2 | h2 <;> rw [hq] at h2 ; exact NE9_12.out q (by rw [h2]); have e := Option.some.inj h2; omega
          have O11_25 := Lib.hid own11
          clear own11 grow11 loc11 k11
          refine hK.out _ _ HH25.out (fun hHeld => ?_)
          clear hK K hHeld
          refine wpAnyH_ready (rs := [5]) (by kernel_rfl) (by simp) ?_
          refine AllReadyH.cons rfl (fun K hK => ?_) AllReadyH.nil
          have HC26 := Lib.hid HH25.out
          rw [if_pos (by rfl)]
          refine wp_append_src _ (.tmp 12) (.tmp 13) 37 rfl w.heap.size 54 i0 z54 33 48 Try.underlying37 hi hz0 hz1 hz2 ZC.out (by decide) (.slice (some ⟨g12, 0, none⟩) 0 0) 0 [] rfl O12_25.out sp2 n2 c2 (pks O) rfl (SRC2.out.keep0 HC26.out) (pks_one _) (by have := QM; omega) (by omega) HC26.out.size ?_
          intro v14 w26 own14 grow14 loc14
          rw [Nat.zero_add, List.nil_append] at own14
          obtain ⟨s14, d14, hv14, _, _, _, _⟩ := Src.of_own own14
          subst hv14
          have k14 := Kp.grown (F := fun q => q = g12) grow14 fun q hq => (Option.some.inj hq).symm
          have HH26 := Lib.hid (HC26.out.trans k14 fun q hq => .inr (by omega))
          have O17_26 := Lib.hid (k14.own O17_25.out fun q hq e => NE17_12.out q hq e)
          have O11_26 := Lib.hid (k14.own O11_25.out fun q hq e => NE11_12.out q hq e)
          have O14_26 := Lib.hid own14
          clear own14 grow14 loc14 k14
          refine hK.out _ _ HH26.out (fun hHeld => ?_)
          clear hK K hHeld
          have H11 := Lib.hid O11_26.out
          refine wpAnyH_take (i := 9) (v := ?v19) rfl (by kernel_rfl) (by kernel_rfl) (by kernel_rfl) (fun _ _ _ h => h) (Or.inl ⟨by rfl, ?y19⟩) (by assumption) ?r19
          case y19 =>
            intro wq hSw
            clear hSw
            go_simp
            with_reducible rfl
          simp only [Act.put, List.getElem_toArray, List.getElem_cons_succ, List.getElem_cons_zero, List.setIfInBounds_toArray, List.set_cons_zero, List.set_cons_succ]
          refine wpAnyH_ready (rs := [10]) (by kernel_rfl) (by simp) ?_
          refine AllReadyH.cons rfl (fun K hK => ?_) AllReadyH.nil
          rw [if_pos (by rfl)]
          go_simp
          have HR := Lib.hid (heap_alloc_new w26 (.cells #[.slice s11 n1 d11, .slice s14 n2 d14, .slice none 0 0, .slice s17 ns d17, .int .i64 0, .slice none 0 0] 63))
          have KZ := Lib.hid (Kp.alloc (fun _ => False) w26 (.cells #[.slice s11 n1 d11, .slice s14 n2 d14, .slice none 0 0, .slice s17 ns d17, .int .i64 0, .slice none 0 0] 63))
          refine hK.out _ _ (HH26.out.trans KZ.out fun _ (h : False) => h.elim) (fun hHeld => ?_)
          clear hK K
          refine wpAnyH_take (i := 11) (v := ?v20) rfl (by kernel_rfl) (by kernel_rfl) (by kernel_rfl) (fun _ _ _ h => h) (Or.inl ⟨by rfl, ?y20⟩) (by assumption) ?r20
          case y20 =>
            intro wq hSw
            clear hSw
            go_simp
            with_reducible rfl
          simp only [Act.put, List.getElem_toArray, List.getElem_cons_succ, List.getElem_cons_zero, List.setIfInBounds_toArray, List.set_cons_zero, List.set_cons_succ]
          refine wpAnyH_done (by kernel_rfl) ?_ _
          go_wp2_with fail
          go_meet
          case rel => exact ⟨_, s11, s14, s17, d11, d14, d17, rfl, HH26.out.size, by rw [← HN1.out, ← HN2.out]; exact HR.out, by rw [← HN1.out]; exact KZ.out.own O11_26.out fun _ _ h => h, by rw [← HN2.out]; exact KZ.out.own O14_26.out fun _ _ h => h, KZ.out.own O17_26.out fun _ _ h => h, HH26.out.trans KZ.out fun _ (h : False) => h.elim⟩
    · have HC27 := Lib.hid hHeld
      rw [if_pos (by rfl)]
      refine opwp_build37 rfl ?_
      intro g12 w27 own12 eg12 sz12 k12
      have HH27 := Lib.hid (HC27.out.trans k12 fun _ (h : False) => h.elim)
      have LT12_27 : Hid (g12 < w27.heap.size) := Lib.hid (by omega)
      have O12_27 := Lib.hid (own_low own12 HC27.out.size)
      have GE12 : w.heap.size ≤ g12 := by have := HC27.out.size; omega
      clear own12 k12
      refine hK.out _ _ HH27.out (fun hHeld => ?_)
      clear hK K hHeld
      refine wpAnyH_ready (rs := [0, 8]) (by kernel_rfl) (by simp) ?_
      refine AllReadyH.cons rfl (fun K hK => ?_) (AllReadyH.cons rfl (fun K hK => ?_) AllReadyH.nil)
      · have HC28 := Lib.hid HH27.out
        rw [if_pos (by rfl)]
        refine opwp_build37 rfl ?_
        intro g9 w28 own9 eg9 sz9 k9
        have HH28 := Lib.hid (HC28.out.trans k9 fun _ (h : False) => h.elim)
        have O12_28 := Lib.hid (k9.own O12_27.out fun _ _ h => h)
        have NE12_9 : Hid (∀ q, Value.ownBlock (.slice (some ⟨g12, 0, none⟩) 0 0) = some q → q ≠ g9) := Lib.hid fun q hq => by have := (ownsRow_block O12_27.out hq).2.1; omega
        have NE9_12 : Hid (∀ q, Value.ownBlock (.slice (some ⟨g9, 0, none⟩) 0 0) = some q → q ≠ g12) := Lib.hid fun q hq => by have := LT12_27.out; have e : some g9 = some q := hq; cases e; omega
        have LT12_28 : Hid (g12 < w28.heap.size) := Lib.hid (by have := LT12_27.out; omega)
        have LT9_28 : Hid (g9 < w28.heap.size) := Lib.hid (by omega)
        have O9_28 := Lib.hid (own_low own9 HC28.out.size)
        have GE9 : w.heap.size ≤ g9 := by have := HC28.out.size; omega
        clear own9 k9
        refine hK.out _ _ HH28.out (fun hHeld => ?_)
        clear hK K hHeld
        refine wpAnyH_ready (rs := [2, 8]) (by kernel_rfl) (by simp) ?_
        refine AllReadyH.cons rfl (fun K hK => ?_) (AllReadyH.cons rfl (fun K hK => ?_) AllReadyH.nil)
        · have HC29 := Lib.hid HH28.out
          rw [if_pos (by rfl)]
          refine wp_append_src _ (.tmp 9) (.tmp 10) 37 rfl w.heap.size 54 i0 z54 33 48 Try.underlying37 hi hz0 hz1 hz2 ZC.out (by decide) (.slice (some ⟨g9, 0, none⟩) 0 0) 0 [] rfl O9_28.out sp1 n1 c1 (pks P) rfl (SRC1.out.keep0 HC29.out) (pks_one _) (by have := QM; omega) (by omega) HC29.out.size ?_
          intro v11 w29 own11 grow11 loc11
          rw [Nat.zero_add, List.nil_append] at own11
          obtain ⟨s11, d11, hv11, _, _, _, _⟩ := Src.of_own own11
          subst hv11
          have k11 := Kp.grown (F := fun q => q = g9) grow11 fun q hq => (Option.some.inj hq).symm
          have HH29 := Lib.hid (HC29.out.trans k11 fun q hq => .inr (by omega))
          have O12_29 := Lib.hid (k11.own O12_28.out fun q hq e => NE12_9.out q hq e)
          have LT12_29 : Hid (g12 < w29.heap.size) := Lib.hid (by have := LT12_28.out; have := k11.size; omega)
          have NE11_12 : Hid (∀ q, Value.ownBlock (.slice s11 n1 d11) = some q → q ≠ g12) := Lib.hid fun q hq => by have h1 := LT12_28.out; rcases loc11 with h2 | h2 <;> rw [hq] at h2 ; exact NE9_12.out q (by rw [h2]); have e := Option.some.inj h2; omega
          have O11_29 := Lib.hid own11
          clear own11 grow11 loc11 k11
          refine hK.out _ _ HH29.out (fun hHeld => ?_)
          clear hK K hHeld
          refine wpAnyH_ready (rs := [5, 8]) (by kernel_rfl) (by simp) ?_
          refine AllReadyH.cons rfl (fun K hK => ?_) (AllReadyH.cons rfl (fun K hK => ?_) AllReadyH.nil)
          · have HC30 := Lib.hid HH29.out
            rw [if_pos (by rfl)]
            refine wp_append_src _ (.tmp 12) (.tmp 13) 37 rfl w.heap.size 54 i0 z54 33 48 Try.underlying37 hi hz0 hz1 hz2 ZC.out (by decide) (.slice (some ⟨g12, 0, none⟩) 0 0) 0 [] rfl O12_29.out sp2 n2 c2 (pks O) rfl (SRC2.out.keep0 HC30.out) (pks_one _) (by have := QM; omega) (by omega) HC30.out.size ?_
            intro v14 w30 own14 grow14 loc14
            rw [Nat.zero_add, List.nil_append] at own14
            obtain ⟨s14, d14, hv14, _, _, _, _⟩ := Src.of_own own14
            subst hv14
            have k14 := Kp.grown (F := fun q => q = g12) grow14 fun q hq => (Option.some.inj hq).symm
            have HH30 := Lib.hid (HC30.out.trans k14 fun q hq => .inr (by omega))
            have O11_30 := Lib.hid (k14.own O11_29.out fun q hq e => NE11_12.out q hq e)
            have O14_30 := Lib.hid own14
            clear own14 grow14 loc14 k14
            refine hK.out _ _ HH30.out (fun hHeld => ?_)
            clear hK K hHeld
            refine wpAnyH_ready (rs := [8]) (by kernel_rfl) (by simp) ?_
            refine AllReadyH.cons rfl (fun K hK => ?_) AllReadyH.nil
            have HC31 := Lib.hid HH30.out
            rw [if_pos (by rfl)]
            refine opwp_make60 (.tmp 16) rfl ns rfl hS ?_
            intro v17 w31 own17 k17
            obtain ⟨s17, d17, hv17, _, _, _, _⟩ := Src.of_own own17
            subst hv17
            have HH31 := Lib.hid (HC31.out.trans k17 fun _ (h : False) => h.elim)
            have O11_31 := Lib.hid (k17.own O11_30.out fun _ _ h => h)
            have O14_31 := Lib.hid (k17.own O14_30.out fun _ _ h => h)
            have O17_31 := Lib.hid (own_low own17 HC31.out.size)
            clear own17 k17
            refine hK.out _ _ HH31.out (fun hHeld => ?_)
            clear hK K hHeld
            have H11 := Lib.hid O11_31.out
            refine wpAnyH_take (i := 9) (v := ?v21) rfl (by kernel_rfl) (by kernel_rfl) (by kernel_rfl) (fun _ _ _ h => h) (Or.inl ⟨by rfl, ?y21⟩) (by assumption) ?r21
            case y21 =>
              intro wq hSw
              clear hSw
              go_simp
              with_reducible rfl
            simp only [Act.put, List.getElem_toArray, List.getElem_cons_succ, List.getElem_cons_zero, List.setIfInBounds_toArray, List.set_cons_zero, List.set_cons_succ]
            refine wpAnyH_ready (rs := [10]) (by kernel_rfl) (by simp) ?_
            refine AllReadyH.cons rfl (fun K hK => ?_) AllReadyH.nil
            rw [if_pos (by rfl)]
            go_simp
            have HR := Lib.hid (heap_alloc_new w31 (.cells #[.slice s11 n1 d11, .slice s14 n2 d14, .slice none 0 0, .slice s17 ns d17, .int .i64 0, .slice none 0 0] 63))
            have KZ := Lib.hid (Kp.alloc (fun _ => False) w31 (.cells #[.slice s11 n1 d11, .slice s14 n2 d14, .slice none 0 0, .slice s17 ns d17, .int .i64 0, .slice none 0 0] 63))
            refine hK.out _ _ (HH31.out.trans KZ.out fun _ (h : False) => h.elim) (fun hHeld => ?_)
            clear hK K
            refine wpAnyH_take (i := 11) (v := ?v22) rfl (by kernel_rfl) (by kernel_rfl) (by kernel_rfl) (fun _ _ _ h => h) (Or.inl ⟨by rfl, ?y22⟩) (by assumption) ?r22
            case y22 =>
              intro wq hSw
              clear hSw
              go_simp
              with_reducible rfl
            simp only [Act.put, List.getElem_toArray, List.getElem_cons_succ, List.getElem_cons_zero, List.setIfInBounds_toArray, List.set_cons_zero, List.set_cons_succ]
            refine wpAnyH_done (by kernel_rfl) ?_ _
            go_wp2_with fail
            go_meet
            case rel => exact ⟨_, s11, s14, s17, d11, d14, d17, rfl, HH31.out.size, by rw [← HN1.out, ← HN2.out]; exact HR.out, by rw [← HN1.out]; exact KZ.out.own O11_31.out fun _ _ h => h, by rw [← HN2.out]; exact KZ.out.own O14_31.out fun _ _ h => h, KZ.out.own O17_31.out fun _ _ h => h, HH31.out.trans KZ.out fun _ (h : False) => h.elim⟩
          · have HC32 := Lib.hid HH29.out
            rw [if_pos (by rfl)]
            refine opwp_make60 (.tmp 16) rfl ns rfl hS ?_
            intro v17 w32 own17 k17
            obtain ⟨s17, d17, hv17, _, _, _, _⟩ := Src.of_own own17
            subst hv17
            have HH32 := Lib.hid (HC32.out.trans k17 fun _ (h : False) => h.elim)
            have O12_32 := Lib.hid (k17.own O12_29.out fun _ _ h => h)
            have O11_32 := Lib.hid (k17.own O11_29.out fun _ _ h => h)
            have NE17_12 : Hid (∀ q, Value.ownBlock (.slice s17 ns d17) = some q → q ≠ g12) := Lib.hid fun q hq => by have h1 := (ownsRow_block own17 hq).1; have := LT12_29.out; omega
            have LT12_32 : Hid (g12 < w32.heap.size) := Lib.hid (by have := LT12_29.out; have := k17.size; omega)
            have O17_32 := Lib.hid (own_low own17 HC32.out.size)
            clear own17 k17
            refine hK.out _ _ HH32.out (fun hHeld => ?_)
            clear hK K hHeld
            refine wpAnyH_ready (rs := [5]) (by kernel_rfl) (by simp) ?_
            refine AllReadyH.cons rfl (fun K hK => ?_) AllReadyH.nil
            have HC33 := Lib.hid HH32.out
            rw [if_pos (by rfl)]
            refine wp_append_src _ (.tmp 12) (.tmp 13) 37 rfl w.heap.size 54 i0 z54 33 48 Try.underlying37 hi hz0 hz1 hz2 ZC.out (by decide) (.slice (some ⟨g12, 0, none⟩) 0 0) 0 [] rfl O12_32.out sp2 n2 c2 (pks O) rfl (SRC2.out.keep0 HC33.out) (pks_one _) (by have := QM; omega) (by omega) HC33.out.size ?_
            intro v14 w33 own14 grow14 loc14
            rw [Nat.zero_add, List.nil_append] at own14
            obtain ⟨s14, d14, hv14, _, _, _, _⟩ := Src.of_own own14
            subst hv14
            have k14 := Kp.grown (F := fun q => q = g12) grow14 fun q hq => (Option.some.inj hq).symm
            have HH33 := Lib.hid (HC33.out.trans k14 fun q hq => .inr (by omega))
            have O11_33 := Lib.hid (k14.own O11_32.out fun q hq e => NE11_12.out q hq e)
            have O17_33 := Lib.hid (k14.own O17_32.out fun q hq e => NE17_12.out q hq e)
            have O14_33 := Lib.hid own14
            clear own14 grow14 loc14 k14
            refine hK.out _ _ HH33.out (fun hHeld => ?_)
            clear hK K hHeld
            have H11 := Lib.hid O11_33.out
            refine wpAnyH_take (i := 9) (v := ?v23) rfl (by kernel_rfl) (by kernel_rfl) (by kernel_rfl) (fun _ _ _ h => h) (Or.inl ⟨by rfl, ?y23⟩) (by assumption) ?r23
            case y23 =>
              intro wq hSw
              clear hSw
              go_simp
              with_reducible rfl
            simp only [Act.put, List.getElem_toArray, List.getElem_cons_succ, List.getElem_cons_zero, List.setIfInBounds_toArray, List.set_cons_zero, List.set_cons_succ]
            refine wpAnyH_ready (rs := [10]) (by kernel_rfl) (by simp) ?_
            refine AllReadyH.cons rfl (fun K hK => ?_) AllReadyH.nil
            rw [if_pos (by rfl)]
            go_simp
            have HR := Lib.hid (heap_alloc_new w33 (.cells #[.slice s11 n1 d11, .slice s14 n2 d14, .slice none 0 0, .slice s17 ns d17, .int .i64 0, .slice none 0 0] 63))
            have KZ := Lib.hid (Kp.alloc (fun _ => False) w33 (.cells #[.slice s11 n1 d11, .slice s14 n2 d14, .slice none 0 0, .slice s17 ns d17, .int .i64 0, .slice none 0 0] 63))
            refine hK.out _ _ (HH33.out.trans KZ.out fun _ (h : False) => h.elim) (fun hHeld => ?_)
            clear hK K
            refine wpAnyH_take (i := 11) (v := ?v24) rfl (by kernel_rfl) (by kernel_rfl) (by kernel_rfl) (fun _ _ _ h => h) (Or.inl ⟨by rfl, ?y24⟩) (by assumption) ?r24
            case y24 =>
              intro wq hSw
              clear hSw
              go_simp
              with_reducible rfl
            simp only [Act.put, List.getElem_toArray, List.getElem_cons_succ, List.getElem_cons_zero, List.setIfInBounds_toArray, List.set_cons_zero, List.set_cons_succ]
            refine wpAnyH_done (by kernel_rfl) ?_ _
            go_wp2_with fail
            go_meet
            case rel => exact ⟨_, s11, s14, s17, d11, d14, d17, rfl, HH33.out.size, by rw [← HN1.out, ← HN2.out]; exact HR.out, by rw [← HN1.out]; exact KZ.out.own O11_33.out fun _ _ h => h, by rw [← HN2.out]; exact KZ.out.own O14_33.out fun _ _ h => h, KZ.out.own O17_33.out fun _ _ h => h, HH33.out.trans KZ.out fun _ (h : False) => h.elim⟩
        · have HC34 := Lib.hid HH28.out
          rw [if_pos (by rfl)]
          refine opwp_make60 (.tmp 16) rfl ns rfl hS ?_
          intro v17 w34 own17 k17
          obtain ⟨s17, d17, hv17, _, _, _, _⟩ := Src.of_own own17
          subst hv17
          have HH34 := Lib.hid (HC34.out.trans k17 fun _ (h : False) => h.elim)
          have O12_34 := Lib.hid (k17.own O12_28.out fun _ _ h => h)
          have O9_34 := Lib.hid (k17.own O9_28.out fun _ _ h => h)
          have NE17_12 : Hid (∀ q, Value.ownBlock (.slice s17 ns d17) = some q → q ≠ g12) := Lib.hid fun q hq => by have h1 := (ownsRow_block own17 hq).1; have := LT12_28.out; omega
          have LT12_34 : Hid (g12 < w34.heap.size) := Lib.hid (by have := LT12_28.out; have := k17.size; omega)
          have NE17_9 : Hid (∀ q, Value.ownBlock (.slice s17 ns d17) = some q → q ≠ g9) := Lib.hid fun q hq => by have h1 := (ownsRow_block own17 hq).1; have := LT9_28.out; omega
          have LT9_34 : Hid (g9 < w34.heap.size) := Lib.hid (by have := LT9_28.out; have := k17.size; omega)
          have O17_34 := Lib.hid (own_low own17 HC34.out.size)
          clear own17 k17
          refine hK.out _ _ HH34.out (fun hHeld => ?_)
          clear hK K hHeld
          refine wpAnyH_ready (rs := [2]) (by kernel_rfl) (by simp) ?_
          refine AllReadyH.cons rfl (fun K hK => ?_) AllReadyH.nil
          have HC35 := Lib.hid HH34.out
          rw [if_pos (by rfl)]
          refine wp_append_src _ (.tmp 9) (.tmp 10) 37 rfl w.heap.size 54 i0 z54 33 48 Try.underlying37 hi hz0 hz1 hz2 ZC.out (by decide) (.slice (some ⟨g9, 0, none⟩) 0 0) 0 [] rfl O9_34.out sp1 n1 c1 (pks P) rfl (SRC1.out.keep0 HC35.out) (pks_one _) (by have := QM; omega) (by omega) HC35.out.size ?_
          intro v11 w35 own11 grow11 loc11
          rw [Nat.zero_add, List.nil_append] at own11
          obtain ⟨s11, d11, hv11, _, _, _, _⟩ := Src.of_own own11
          subst hv11
          have k11 := Kp.grown (F := fun q => q = g9) grow11 fun q hq => (Option.some.inj hq).symm
          have HH35 := Lib.hid (HC35.out.trans k11 fun q hq => .inr (by omega))
          have O12_35 := Lib.hid (k11.own O12_34.out fun q hq e => NE12_9.out q hq e)
          have O17_35 := Lib.hid (k11.own O17_34.out fun q hq e => NE17_9.out q hq e)
          have LT12_35 : Hid (g12 < w35.heap.size) := Lib.hid (by have := LT12_34.out; have := k11.size; omega)
          have NE11_12 : Hid (∀ q, Value.ownBlock (.slice s11 n1 d11) = some q → q ≠ g12) := Lib.hid fun q hq => by have h1 := LT12_34.out; rcases loc11 with h2 | h2 <;> rw [hq] at h2 ; exact NE9_12.out q (by rw [h2]); have e := Option.some.inj h2; omega
          have O11_35 := Lib.hid own11
          clear own11 grow11 loc11 k11
          refine hK.out _ _ HH35.out (fun hHeld => ?_)
          clear hK K hHeld
          refine wpAnyH_ready (rs := [5]) (by kernel_rfl) (by simp) ?_
          refine AllReadyH.cons rfl (fun K hK => ?_) AllReadyH.nil
          have HC36 := Lib.hid HH35.out
          rw [if_pos (by rfl)]
          refine wp_append_src _ (.tmp 12) (.tmp 13) 37 rfl w.heap.size 54 i0 z54 33 48 Try.underlying37 hi hz0 hz1 hz2 ZC.out (by decide) (.slice (some ⟨g12, 0, none⟩) 0 0) 0 [] rfl O12_35.out sp2 n2 c2 (pks O) rfl (SRC2.out.keep0 HC36.out) (pks_one _) (by have := QM; omega) (by omega) HC36.out.size ?_
          intro v14 w36 own14 grow14 loc14
          rw [Nat.zero_add, List.nil_append] at own14
          obtain ⟨s14, d14, hv14, _, _, _, _⟩ := Src.of_own own14
          subst hv14
          have k14 := Kp.grown (F := fun q => q = g12) grow14 fun q hq => (Option.some.inj hq).symm
          have HH36 := Lib.hid (HC36.out.trans k14 fun q hq => .inr (by omega))
          have O17_36 := Lib.hid (k14.own O17_35.out fun q hq e => NE17_12.out q hq e)
          have O11_36 := Lib.hid (k14.own O11_35.out fun q hq e => NE11_12.out q hq e)
          have O14_36 := Lib.hid own14
          clear own14 grow14 loc14 k14
          refine hK.out _ _ HH36.out (fun hHeld => ?_)
          clear hK K hHeld
          have H11 := Lib.hid O11_36.out
          refine wpAnyH_take (i := 9) (v := ?v25) rfl (by kernel_rfl) (by kernel_rfl) (by kernel_rfl) (fun _ _ _ h => h) (Or.inl ⟨by rfl, ?y25⟩) (by assumption) ?r25
          case y25 =>
            intro wq hSw
            clear hSw
            go_simp
            with_reducible rfl
          simp only [Act.put, List.getElem_toArray, List.getElem_cons_succ, List.getElem_cons_zero, List.setIfInBounds_toArray, List.set_cons_zero, List.set_cons_succ]
          refine wpAnyH_ready (rs := [10]) (by kernel_rfl) (by simp) ?_
          refine AllReadyH.cons rfl (fun K hK => ?_) AllReadyH.nil
          rw [if_pos (by rfl)]
          go_simp
          have HR := Lib.hid (heap_alloc_new w36 (.cells #[.slice s11 n1 d11, .slice s14 n2 d14, .slice none 0 0, .slice s17 ns d17, .int .i64 0, .slice none 0 0] 63))
          have KZ := Lib.hid (Kp.alloc (fun _ => False) w36 (.cells #[.slice s11 n1 d11, .slice s14 n2 d14, .slice none 0 0, .slice s17 ns d17, .int .i64 0, .slice none 0 0] 63))
          refine hK.out _ _ (HH36.out.trans KZ.out fun _ (h : False) => h.elim) (fun hHeld => ?_)
          clear hK K
          refine wpAnyH_take (i := 11) (v := ?v26) rfl (by kernel_rfl) (by kernel_rfl) (by kernel_rfl) (fun _ _ _ h => h) (Or.inl ⟨by rfl, ?y26⟩) (by assumption) ?r26
          case y26 =>
            intro wq hSw
            clear hSw
            go_simp
            with_reducible rfl
          simp only [Act.put, List.getElem_toArray, List.getElem_cons_succ, List.getElem_cons_zero, List.setIfInBounds_toArray, List.set_cons_zero, List.set_cons_succ]
          refine wpAnyH_done (by kernel_rfl) ?_ _
          go_wp2_with fail
          go_meet
          case rel => exact ⟨_, s11, s14, s17, d11, d14, d17, rfl, HH36.out.size, by rw [← HN1.out, ← HN2.out]; exact HR.out, by rw [← HN1.out]; exact KZ.out.own O11_36.out fun _ _ h => h, by rw [← HN2.out]; exact KZ.out.own O14_36.out fun _ _ h => h, KZ.out.own O17_36.out fun _ _ h => h, HH36.out.trans KZ.out fun _ (h : False) => h.elim⟩
      · have HC37 := Lib.hid HH27.out
        rw [if_pos (by rfl)]
        refine opwp_make60 (.tmp 16) rfl ns rfl hS ?_
        intro v17 w37 own17 k17
        obtain ⟨s17, d17, hv17, _, _, _, _⟩ := Src.of_own own17
        subst hv17
        have HH37 := Lib.hid (HC37.out.trans k17 fun _ (h : False) => h.elim)
        have O12_37 := Lib.hid (k17.own O12_27.out fun _ _ h => h)
        have NE17_12 : Hid (∀ q, Value.ownBlock (.slice s17 ns d17) = some q → q ≠ g12) := Lib.hid fun q hq => by have h1 := (ownsRow_block own17 hq).1; have := LT12_27.out; omega
        have LT12_37 : Hid (g12 < w37.heap.size) := Lib.hid (by have := LT12_27.out; have := k17.size; omega)
        have O17_37 := Lib.hid (own_low own17 HC37.out.size)
        clear own17 k17
        refine hK.out _ _ HH37.out (fun hHeld => ?_)
        clear hK K hHeld
        refine wpAnyH_ready (rs := [0]) (by kernel_rfl) (by simp) ?_
        refine AllReadyH.cons rfl (fun K hK => ?_) AllReadyH.nil
        have HC38 := Lib.hid HH37.out
        rw [if_pos (by rfl)]
        refine opwp_build37 rfl ?_
        intro g9 w38 own9 eg9 sz9 k9
        have HH38 := Lib.hid (HC38.out.trans k9 fun _ (h : False) => h.elim)
        have O12_38 := Lib.hid (k9.own O12_37.out fun _ _ h => h)
        have NE12_9 : Hid (∀ q, Value.ownBlock (.slice (some ⟨g12, 0, none⟩) 0 0) = some q → q ≠ g9) := Lib.hid fun q hq => by have := (ownsRow_block O12_37.out hq).2.1; omega
        have O17_38 := Lib.hid (k9.own O17_37.out fun _ _ h => h)
        have NE17_9 : Hid (∀ q, Value.ownBlock (.slice s17 ns d17) = some q → q ≠ g9) := Lib.hid fun q hq => by have := (ownsRow_block O17_37.out hq).2.1; omega
        have NE9_12 : Hid (∀ q, Value.ownBlock (.slice (some ⟨g9, 0, none⟩) 0 0) = some q → q ≠ g12) := Lib.hid fun q hq => by have := LT12_37.out; have e : some g9 = some q := hq; cases e; omega
        have LT12_38 : Hid (g12 < w38.heap.size) := Lib.hid (by have := LT12_37.out; omega)
        have LT9_38 : Hid (g9 < w38.heap.size) := Lib.hid (by omega)
        have O9_38 := Lib.hid (own_low own9 HC38.out.size)
        have GE9 : w.heap.size ≤ g9 := by have := HC38.out.size; omega
        clear own9 k9
        refine hK.out _ _ HH38.out (fun hHeld => ?_)
        clear hK K hHeld
        refine wpAnyH_ready (rs := [2]) (by kernel_rfl) (by simp) ?_
        refine AllReadyH.cons rfl (fun K hK => ?_) AllReadyH.nil
        have HC39 := Lib.hid HH38.out
        rw [if_pos (by rfl)]
        refine wp_append_src _ (.tmp 9) (.tmp 10) 37 rfl w.heap.size 54 i0 z54 33 48 Try.underlying37 hi hz0 hz1 hz2 ZC.out (by decide) (.slice (some ⟨g9, 0, none⟩) 0 0) 0 [] rfl O9_38.out sp1 n1 c1 (pks P) rfl (SRC1.out.keep0 HC39.out) (pks_one _) (by have := QM; omega) (by omega) HC39.out.size ?_
        intro v11 w39 own11 grow11 loc11
        rw [Nat.zero_add, List.nil_append] at own11
        obtain ⟨s11, d11, hv11, _, _, _, _⟩ := Src.of_own own11
        subst hv11
        have k11 := Kp.grown (F := fun q => q = g9) grow11 fun q hq => (Option.some.inj hq).symm
        have HH39 := Lib.hid (HC39.out.trans k11 fun q hq => .inr (by omega))
        have O12_39 := Lib.hid (k11.own O12_38.out fun q hq e => NE12_9.out q hq e)
        have O17_39 := Lib.hid (k11.own O17_38.out fun q hq e => NE17_9.out q hq e)
        have LT12_39 : Hid (g12 < w39.heap.size) := Lib.hid (by have := LT12_38.out; have := k11.size; omega)
        have NE11_12 : Hid (∀ q, Value.ownBlock (.slice s11 n1 d11) = some q → q ≠ g12) := Lib.hid fun q hq => by have h1 := LT12_38.out; rcases loc11 with h2 | h2 <;> rw [hq] at h2 ; exact NE9_12.out q (by rw [h2]); have e := Option.some.inj h2; omega
        have O11_39 := Lib.hid own11
        clear own11 grow11 loc11 k11
        refine hK.out _ _ HH39.out (fun hHeld => ?_)
        clear hK K hHeld
        refine wpAnyH_ready (rs := [5]) (by kernel_rfl) (by simp) ?_
        refine AllReadyH.cons rfl (fun K hK => ?_) AllReadyH.nil
        have HC40 := Lib.hid HH39.out
        rw [if_pos (by rfl)]
        refine wp_append_src _ (.tmp 12) (.tmp 13) 37 rfl w.heap.size 54 i0 z54 33 48 Try.underlying37 hi hz0 hz1 hz2 ZC.out (by decide) (.slice (some ⟨g12, 0, none⟩) 0 0) 0 [] rfl O12_39.out sp2 n2 c2 (pks O) rfl (SRC2.out.keep0 HC40.out) (pks_one _) (by have := QM; omega) (by omega) HC40.out.size ?_
        intro v14 w40 own14 grow14 loc14
        rw [Nat.zero_add, List.nil_append] at own14
        obtain ⟨s14, d14, hv14, _, _, _, _⟩ := Src.of_own own14
        subst hv14
        have k14 := Kp.grown (F := fun q => q = g12) grow14 fun q hq => (Option.some.inj hq).symm
        have HH40 := Lib.hid (HC40.out.trans k14 fun q hq => .inr (by omega))
        have O17_40 := Lib.hid (k14.own O17_39.out fun q hq e => NE17_12.out q hq e)
        have O11_40 := Lib.hid (k14.own O11_39.out fun q hq e => NE11_12.out q hq e)
        have O14_40 := Lib.hid own14
        clear own14 grow14 loc14 k14
        refine hK.out _ _ HH40.out (fun hHeld => ?_)
        clear hK K hHeld
        have H11 := Lib.hid O11_40.out
        refine wpAnyH_take (i := 9) (v := ?v27) rfl (by kernel_rfl) (by kernel_rfl) (by kernel_rfl) (fun _ _ _ h => h) (Or.inl ⟨by rfl, ?y27⟩) (by assumption) ?r27
        case y27 =>
          intro wq hSw
          clear hSw
          go_simp
          with_reducible rfl
        simp only [Act.put, List.getElem_toArray, List.getElem_cons_succ, List.getElem_cons_zero, List.setIfInBounds_toArray, List.set_cons_zero, List.set_cons_succ]
        refine wpAnyH_ready (rs := [10]) (by kernel_rfl) (by simp) ?_
        refine AllReadyH.cons rfl (fun K hK => ?_) AllReadyH.nil
        rw [if_pos (by rfl)]
        go_simp
        have HR := Lib.hid (heap_alloc_new w40 (.cells #[.slice s11 n1 d11, .slice s14 n2 d14, .slice none 0 0, .slice s17 ns d17, .int .i64 0, .slice none 0 0] 63))
        have KZ := Lib.hid (Kp.alloc (fun _ => False) w40 (.cells #[.slice s11 n1 d11, .slice s14 n2 d14, .slice none 0 0, .slice s17 ns d17, .int .i64 0, .slice none 0 0] 63))
        refine hK.out _ _ (HH40.out.trans KZ.out fun _ (h : False) => h.elim) (fun hHeld => ?_)
        clear hK K
        refine wpAnyH_take (i := 11) (v := ?v28) rfl (by kernel_rfl) (by kernel_rfl) (by kernel_rfl) (fun _ _ _ h => h) (Or.inl ⟨by rfl, ?y28⟩) (by assumption) ?r28
        case y28 =>
          intro wq hSw
          clear hSw
          go_simp
          with_reducible rfl
        simp only [Act.put, List.getElem_toArray, List.getElem_cons_succ, List.getElem_cons_zero, List.setIfInBounds_toArray, List.set_cons_zero, List.set_cons_succ]
        refine wpAnyH_done (by kernel_rfl) ?_ _
        go_wp2_with fail
        go_meet
        case rel => exact ⟨_, s11, s14, s17, d11, d14, d17, rfl, HH40.out.size, by rw [← HN1.out, ← HN2.out]; exact HR.out, by rw [← HN1.out]; exact KZ.out.own O11_40.out fun _ _ h => h, by rw [← HN2.out]; exact KZ.out.own O14_40.out fun _ _ h => h, KZ.out.own O17_40.out fun _ _ h => h, HH40.out.trans KZ.out fun _ (h : False) => h.elim⟩
    · have HC41 := Lib.hid hHeld
      rw [if_pos (by rfl)]
      refine opwp_make60 (.tmp 16) rfl ns rfl hS ?_
      intro v17 w41 own17 k17
      obtain ⟨s17, d17, hv17, _, _, _, _⟩ := Src.of_own own17
      subst hv17
      have HH41 := Lib.hid (HC41.out.trans k17 fun _ (h : False) => h.elim)
      have O17_41 := Lib.hid (own_low own17 HC41.out.size)
      clear own17 k17
      refine hK.out _ _ HH41.out (fun hHeld => ?_)
      clear hK K hHeld
      refine wpAnyH_ready (rs := [0, 3]) (by kernel_rfl) (by simp) ?_
      refine AllReadyH.cons rfl (fun K hK => ?_) (AllReadyH.cons rfl (fun K hK => ?_) AllReadyH.nil)
      · have HC42 := Lib.hid HH41.out
        rw [if_pos (by rfl)]
        refine opwp_build37 rfl ?_
        intro g9 w42 own9 eg9 sz9 k9
        have HH42 := Lib.hid (HC42.out.trans k9 fun _ (h : False) => h.elim)
        have O17_42 := Lib.hid (k9.own O17_41.out fun _ _ h => h)
        have NE17_9 : Hid (∀ q, Value.ownBlock (.slice s17 ns d17) = some q → q ≠ g9) := Lib.hid fun q hq => by have := (ownsRow_block O17_41.out hq).2.1; omega
        have LT9_42 : Hid (g9 < w42.heap.size) := Lib.hid (by omega)
        have O9_42 := Lib.hid (own_low own9 HC42.out.size)
        have GE9 : w.heap.size ≤ g9 := by have := HC42.out.size; omega
        clear own9 k9
        refine hK.out _ _ HH42.out (fun hHeld => ?_)
        clear hK K hHeld
        refine wpAnyH_ready (rs := [2, 3]) (by kernel_rfl) (by simp) ?_
        refine AllReadyH.cons rfl (fun K hK => ?_) (AllReadyH.cons rfl (fun K hK => ?_) AllReadyH.nil)
        · have HC43 := Lib.hid HH42.out
          rw [if_pos (by rfl)]
          refine wp_append_src _ (.tmp 9) (.tmp 10) 37 rfl w.heap.size 54 i0 z54 33 48 Try.underlying37 hi hz0 hz1 hz2 ZC.out (by decide) (.slice (some ⟨g9, 0, none⟩) 0 0) 0 [] rfl O9_42.out sp1 n1 c1 (pks P) rfl (SRC1.out.keep0 HC43.out) (pks_one _) (by have := QM; omega) (by omega) HC43.out.size ?_
          intro v11 w43 own11 grow11 loc11
          rw [Nat.zero_add, List.nil_append] at own11
          obtain ⟨s11, d11, hv11, _, _, _, _⟩ := Src.of_own own11
          subst hv11
          have k11 := Kp.grown (F := fun q => q = g9) grow11 fun q hq => (Option.some.inj hq).symm
          have HH43 := Lib.hid (HC43.out.trans k11 fun q hq => .inr (by omega))
          have O17_43 := Lib.hid (k11.own O17_42.out fun q hq e => NE17_9.out q hq e)
          have O11_43 := Lib.hid own11
          clear own11 grow11 loc11 k11
          refine hK.out _ _ HH43.out (fun hHeld => ?_)
          clear hK K hHeld
          refine wpAnyH_ready (rs := [3]) (by kernel_rfl) (by simp) ?_
          refine AllReadyH.cons rfl (fun K hK => ?_) AllReadyH.nil
          have HC44 := Lib.hid HH43.out
          rw [if_pos (by rfl)]
          refine opwp_build37 rfl ?_
          intro g12 w44 own12 eg12 sz12 k12
          have HH44 := Lib.hid (HC44.out.trans k12 fun _ (h : False) => h.elim)
          have O17_44 := Lib.hid (k12.own O17_43.out fun _ _ h => h)
          have NE17_12 : Hid (∀ q, Value.ownBlock (.slice s17 ns d17) = some q → q ≠ g12) := Lib.hid fun q hq => by have := (ownsRow_block O17_43.out hq).2.1; omega
          have O11_44 := Lib.hid (k12.own O11_43.out fun _ _ h => h)
          have NE11_12 : Hid (∀ q, Value.ownBlock (.slice s11 n1 d11) = some q → q ≠ g12) := Lib.hid fun q hq => by have := (ownsRow_block O11_43.out hq).2.1; omega
          have LT12_44 : Hid (g12 < w44.heap.size) := Lib.hid (by omega)
          have O12_44 := Lib.hid (own_low own12 HC44.out.size)
          have GE12 : w.heap.size ≤ g12 := by have := HC44.out.size; omega
          clear own12 k12
          refine hK.out _ _ HH44.out (fun hHeld => ?_)
          clear hK K hHeld
          refine wpAnyH_ready (rs := [5]) (by kernel_rfl) (by simp) ?_
          refine AllReadyH.cons rfl (fun K hK => ?_) AllReadyH.nil
          have HC45 := Lib.hid HH44.out
          rw [if_pos (by rfl)]
          refine wp_append_src _ (.tmp 12) (.tmp 13) 37 rfl w.heap.size 54 i0 z54 33 48 Try.underlying37 hi hz0 hz1 hz2 ZC.out (by decide) (.slice (some ⟨g12, 0, none⟩) 0 0) 0 [] rfl O12_44.out sp2 n2 c2 (pks O) rfl (SRC2.out.keep0 HC45.out) (pks_one _) (by have := QM; omega) (by omega) HC45.out.size ?_
          intro v14 w45 own14 grow14 loc14
          rw [Nat.zero_add, List.nil_append] at own14
          obtain ⟨s14, d14, hv14, _, _, _, _⟩ := Src.of_own own14
          subst hv14
          have k14 := Kp.grown (F := fun q => q = g12) grow14 fun q hq => (Option.some.inj hq).symm
          have HH45 := Lib.hid (HC45.out.trans k14 fun q hq => .inr (by omega))
          have O17_45 := Lib.hid (k14.own O17_44.out fun q hq e => NE17_12.out q hq e)
          have O11_45 := Lib.hid (k14.own O11_44.out fun q hq e => NE11_12.out q hq e)
          have O14_45 := Lib.hid own14
          clear own14 grow14 loc14 k14
          refine hK.out _ _ HH45.out (fun hHeld => ?_)
          clear hK K hHeld
          have H11 := Lib.hid O11_45.out
          refine wpAnyH_take (i := 9) (v := ?v29) rfl (by kernel_rfl) (by kernel_rfl) (by kernel_rfl) (fun _ _ _ h => h) (Or.inl ⟨by rfl, ?y29⟩) (by assumption) ?r29
          case y29 =>
            intro wq hSw
            clear hSw
            go_simp
            with_reducible rfl
          simp only [Act.put, List.getElem_toArray, List.getElem_cons_succ, List.getElem_cons_zero, List.setIfInBounds_toArray, List.set_cons_zero, List.set_cons_succ]
          refine wpAnyH_ready (rs := [10]) (by kernel_rfl) (by simp) ?_
          refine AllReadyH.cons rfl (fun K hK => ?_) AllReadyH.nil
          rw [if_pos (by rfl)]
          go_simp
          have HR := Lib.hid (heap_alloc_new w45 (.cells #[.slice s11 n1 d11, .slice s14 n2 d14, .slice none 0 0, .slice s17 ns d17, .int .i64 0, .slice none 0 0] 63))
          have KZ := Lib.hid (Kp.alloc (fun _ => False) w45 (.cells #[.slice s11 n1 d11, .slice s14 n2 d14, .slice none 0 0, .slice s17 ns d17, .int .i64 0, .slice none 0 0] 63))
          refine hK.out _ _ (HH45.out.trans KZ.out fun _ (h : False) => h.elim) (fun hHeld => ?_)
          clear hK K
          refine wpAnyH_take (i := 11) (v := ?v30) rfl (by kernel_rfl) (by kernel_rfl) (by kernel_rfl) (fun _ _ _ h => h) (Or.inl ⟨by rfl, ?y30⟩) (by assumption) ?r30
          case y30 =>
            intro wq hSw
            clear hSw
            go_simp
            with_reducible rfl
          simp only [Act.put, List.getElem_toArray, List.getElem_cons_succ, List.getElem_cons_zero, List.setIfInBounds_toArray, List.set_cons_zero, List.set_cons_succ]
          refine wpAnyH_done (by kernel_rfl) ?_ _
          go_wp2_with fail
          go_meet
          case rel => exact ⟨_, s11, s14, s17, d11, d14, d17, rfl, HH45.out.size, by rw [← HN1.out, ← HN2.out]; exact HR.out, by rw [← HN1.out]; exact KZ.out.own O11_45.out fun _ _ h => h, by rw [← HN2.out]; exact KZ.out.own O14_45.out fun _ _ h => h, KZ.out.own O17_45.out fun _ _ h => h, HH45.out.trans KZ.out fun _ (h : False) => h.elim⟩
        · have HC46 := Lib.hid HH42.out
          rw [if_pos (by rfl)]
          refine opwp_build37 rfl ?_
          intro g12 w46 own12 eg12 sz12 k12
          have HH46 := Lib.hid (HC46.out.trans k12 fun _ (h : False) => h.elim)
          have O17_46 := Lib.hid (k12.own O17_42.out fun _ _ h => h)
          have NE17_12 : Hid (∀ q, Value.ownBlock (.slice s17 ns d17) = some q → q ≠ g12) := Lib.hid fun q hq => by have := (ownsRow_block O17_42.out hq).2.1; omega
          have O9_46 := Lib.hid (k12.own O9_42.out fun _ _ h => h)
          have NE9_12 : Hid (∀ q, Value.ownBlock (.slice (some ⟨g9, 0, none⟩) 0 0) = some q → q ≠ g12) := Lib.hid fun q hq => by have := (ownsRow_block O9_42.out hq).2.1; omega
          have NE12_9 : Hid (∀ q, Value.ownBlock (.slice (some ⟨g12, 0, none⟩) 0 0) = some q → q ≠ g9) := Lib.hid fun q hq => by have := LT9_42.out; have e : some g12 = some q := hq; cases e; omega
          have LT9_46 : Hid (g9 < w46.heap.size) := Lib.hid (by have := LT9_42.out; omega)
          have LT12_46 : Hid (g12 < w46.heap.size) := Lib.hid (by omega)
          have O12_46 := Lib.hid (own_low own12 HC46.out.size)
          have GE12 : w.heap.size ≤ g12 := by have := HC46.out.size; omega
          clear own12 k12
          refine hK.out _ _ HH46.out (fun hHeld => ?_)
          clear hK K hHeld
          refine wpAnyH_ready (rs := [2]) (by kernel_rfl) (by simp) ?_
          refine AllReadyH.cons rfl (fun K hK => ?_) AllReadyH.nil
          have HC47 := Lib.hid HH46.out
          rw [if_pos (by rfl)]
          refine wp_append_src _ (.tmp 9) (.tmp 10) 37 rfl w.heap.size 54 i0 z54 33 48 Try.underlying37 hi hz0 hz1 hz2 ZC.out (by decide) (.slice (some ⟨g9, 0, none⟩) 0 0) 0 [] rfl O9_46.out sp1 n1 c1 (pks P) rfl (SRC1.out.keep0 HC47.out) (pks_one _) (by have := QM; omega) (by omega) HC47.out.size ?_
          intro v11 w47 own11 grow11 loc11
          rw [Nat.zero_add, List.nil_append] at own11
          obtain ⟨s11, d11, hv11, _, _, _, _⟩ := Src.of_own own11
          subst hv11
          have k11 := Kp.grown (F := fun q => q = g9) grow11 fun q hq => (Option.some.inj hq).symm
          have HH47 := Lib.hid (HC47.out.trans k11 fun q hq => .inr (by omega))
          have O17_47 := Lib.hid (k11.own O17_46.out fun q hq e => NE17_9.out q hq e)
          have O12_47 := Lib.hid (k11.own O12_46.out fun q hq e => NE12_9.out q hq e)
          have LT12_47 : Hid (g12 < w47.heap.size) := Lib.hid (by have := LT12_46.out; have := k11.size; omega)
          have NE11_12 : Hid (∀ q, Value.ownBlock (.slice s11 n1 d11) = some q → q ≠ g12) := Lib.hid fun q hq => by have h1 := LT12_46.out; rcases loc11 with h2 | h2 <;> rw [hq] at h2 ; exact NE9_12.out q (by rw [h2]); have e := Option.some.inj h2; omega
          have O11_47 := Lib.hid own11
          clear own11 grow11 loc11 k11
          refine hK.out _ _ HH47.out (fun hHeld => ?_)
          clear hK K hHeld
          refine wpAnyH_ready (rs := [5]) (by kernel_rfl) (by simp) ?_
          refine AllReadyH.cons rfl (fun K hK => ?_) AllReadyH.nil
          have HC48 := Lib.hid HH47.out
          rw [if_pos (by rfl)]
          refine wp_append_src _ (.tmp 12) (.tmp 13) 37 rfl w.heap.size 54 i0 z54 33 48 Try.underlying37 hi hz0 hz1 hz2 ZC.out (by decide) (.slice (some ⟨g12, 0, none⟩) 0 0) 0 [] rfl O12_47.out sp2 n2 c2 (pks O) rfl (SRC2.out.keep0 HC48.out) (pks_one _) (by have := QM; omega) (by omega) HC48.out.size ?_
          intro v14 w48 own14 grow14 loc14
          rw [Nat.zero_add, List.nil_append] at own14
          obtain ⟨s14, d14, hv14, _, _, _, _⟩ := Src.of_own own14
          subst hv14
          have k14 := Kp.grown (F := fun q => q = g12) grow14 fun q hq => (Option.some.inj hq).symm
          have HH48 := Lib.hid (HC48.out.trans k14 fun q hq => .inr (by omega))
          have O17_48 := Lib.hid (k14.own O17_47.out fun q hq e => NE17_12.out q hq e)
          have O11_48 := Lib.hid (k14.own O11_47.out fun q hq e => NE11_12.out q hq e)
          have O14_48 := Lib.hid own14
          clear own14 grow14 loc14 k14
          refine hK.out _ _ HH48.out (fun hHeld => ?_)
          clear hK K hHeld
          have H11 := Lib.hid O11_48.out
          refine wpAnyH_take (i := 9) (v := ?v31) rfl (by kernel_rfl) (by kernel_rfl) (by kernel_rfl) (fun _ _ _ h => h) (Or.inl ⟨by rfl, ?y31⟩) (by assumption) ?r31
          case y31 =>
            intro wq hSw
            clear hSw
            go_simp
            with_reducible rfl
          simp only [Act.put, List.getElem_toArray, List.getElem_cons_succ, List.getElem_cons_zero, List.setIfInBounds_toArray, List.set_cons_zero, List.set_cons_succ]
          refine wpAnyH_ready (rs := [10]) (by kernel_rfl) (by simp) ?_
          refine AllReadyH.cons rfl (fun K hK => ?_) AllReadyH.nil
          rw [if_pos (by rfl)]
          go_simp
          have HR := Lib.hid (heap_alloc_new w48 (.cells #[.slice s11 n1 d11, .slice s14 n2 d14, .slice none 0 0, .slice s17 ns d17, .int .i64 0, .slice none 0 0] 63))
          have KZ := Lib.hid (Kp.alloc (fun _ => False) w48 (.cells #[.slice s11 n1 d11, .slice s14 n2 d14, .slice none 0 0, .slice s17 ns d17, .int .i64 0, .slice none 0 0] 63))
          refine hK.out _ _ (HH48.out.trans KZ.out fun _ (h : False) => h.elim) (fun hHeld => ?_)
          clear hK K
          refine wpAnyH_take (i := 11) (v := ?v32) rfl (by kernel_rfl) (by kernel_rfl) (by kernel_rfl) (fun _ _ _ h => h) (Or.inl ⟨by rfl, ?y32⟩) (by assumption) ?r32
          case y32 =>
            intro wq hSw
            clear hSw
            go_simp
            with_reducible rfl
          simp only [Act.put, List.getElem_toArray, List.getElem_cons_succ, List.getElem_cons_zero, List.setIfInBounds_toArray, List.set_cons_zero, List.set_cons_succ]
          refine wpAnyH_done (by kernel_rfl) ?_ _
          go_wp2_with fail
          go_meet
          case rel => exact ⟨_, s11, s14, s17, d11, d14, d17, rfl, HH48.out.size, by rw [← HN1.out, ← HN2.out]; exact HR.out, by rw [← HN1.out]; exact KZ.out.own O11_48.out fun _ _ h => h, by rw [← HN2.out]; exact KZ.out.own O14_48.out fun _ _ h => h, KZ.out.own O17_48.out fun _ _ h => h, HH48.out.trans KZ.out fun _ (h : False) => h.elim⟩
      · have HC49 := Lib.hid HH41.out
        rw [if_pos (by rfl)]
        refine opwp_build37 rfl ?_
        intro g12 w49 own12 eg12 sz12 k12
        have HH49 := Lib.hid (HC49.out.trans k12 fun _ (h : False) => h.elim)
        have O17_49 := Lib.hid (k12.own O17_41.out fun _ _ h => h)
        have NE17_12 : Hid (∀ q, Value.ownBlock (.slice s17 ns d17) = some q → q ≠ g12) := Lib.hid fun q hq => by have := (ownsRow_block O17_41.out hq).2.1; omega
        have LT12_49 : Hid (g12 < w49.heap.size) := Lib.hid (by omega)
        have O12_49 := Lib.hid (own_low own12 HC49.out.size)
        have GE12 : w.heap.size ≤ g12 := by have := HC49.out.size; omega
        clear own12 k12
        refine hK.out _ _ HH49.out (fun hHeld => ?_)
        clear hK K hHeld
        refine wpAnyH_ready (rs := [0]) (by kernel_rfl) (by simp) ?_
        refine AllReadyH.cons rfl (fun K hK => ?_) AllReadyH.nil
        have HC50 := Lib.hid HH49.out
        rw [if_pos (by rfl)]
        refine opwp_build37 rfl ?_
        intro g9 w50 own9 eg9 sz9 k9
        have HH50 := Lib.hid (HC50.out.trans k9 fun _ (h : False) => h.elim)
        have O17_50 := Lib.hid (k9.own O17_49.out fun _ _ h => h)
        have NE17_9 : Hid (∀ q, Value.ownBlock (.slice s17 ns d17) = some q → q ≠ g9) := Lib.hid fun q hq => by have := (ownsRow_block O17_49.out hq).2.1; omega
        have O12_50 := Lib.hid (k9.own O12_49.out fun _ _ h => h)
        have NE12_9 : Hid (∀ q, Value.ownBlock (.slice (some ⟨g12, 0, none⟩) 0 0) = some q → q ≠ g9) := Lib.hid fun q hq => by have := (ownsRow_block O12_49.out hq).2.1; omega
        have NE9_12 : Hid (∀ q, Value.ownBlock (.slice (some ⟨g9, 0, none⟩) 0 0) = some q → q ≠ g12) := Lib.hid fun q hq => by have := LT12_49.out; have e : some g9 = some q := hq; cases e; omega
        have LT12_50 : Hid (g12 < w50.heap.size) := Lib.hid (by have := LT12_49.out; omega)
        have LT9_50 : Hid (g9 < w50.heap.size) := Lib.hid (by omega)
        have O9_50 := Lib.hid (own_low own9 HC50.out.size)
        have GE9 : w.heap.size ≤ g9 := by have := HC50.out.size; omega
        clear own9 k9
        refine hK.out _ _ HH50.out (fun hHeld => ?_)
        clear hK K hHeld
        refine wpAnyH_ready (rs := [2]) (by kernel_rfl) (by simp) ?_
        refine AllReadyH.cons rfl (fun K hK => ?_) AllReadyH.nil
        have HC51 := Lib.hid HH50.out
        rw [if_pos (by rfl)]
        refine wp_append_src _ (.tmp 9) (.tmp 10) 37 rfl w.heap.size 54 i0 z54 33 48 Try.underlying37 hi hz0 hz1 hz2 ZC.out (by decide) (.slice (some ⟨g9, 0, none⟩) 0 0) 0 [] rfl O9_50.out sp1 n1 c1 (pks P) rfl (SRC1.out.keep0 HC51.out) (pks_one _) (by have := QM; omega) (by omega) HC51.out.size ?_
        intro v11 w51 own11 grow11 loc11
        rw [Nat.zero_add, List.nil_append] at own11
        obtain ⟨s11, d11, hv11, _, _, _, _⟩ := Src.of_own own11
        subst hv11
        have k11 := Kp.grown (F := fun q => q = g9) grow11 fun q hq => (Option.some.inj hq).symm
        have HH51 := Lib.hid (HC51.out.trans k11 fun q hq => .inr (by omega))
        have O17_51 := Lib.hid (k11.own O17_50.out fun q hq e => NE17_9.out q hq e)
        have O12_51 := Lib.hid (k11.own O12_50.out fun q hq e => NE12_9.out q hq e)
        have LT12_51 : Hid (g12 < w51.heap.size) := Lib.hid (by have := LT12_50.out; have := k11.size; omega)
        have NE11_12 : Hid (∀ q, Value.ownBlock (.slice s11 n1 d11) = some q → q ≠ g12) := Lib.hid fun q hq => by have h1 := LT12_50.out; rcases loc11 with h2 | h2 <;> rw [hq] at h2 ; exact NE9_12.out q (by rw [h2]); have e := Option.some.inj h2; omega
        have O11_51 := Lib.hid own11
        clear own11 grow11 loc11 k11
        refine hK.out _ _ HH51.out (fun hHeld => ?_)
        clear hK K hHeld
        refine wpAnyH_ready (rs := [5]) (by kernel_rfl) (by simp) ?_
        refine AllReadyH.cons rfl (fun K hK => ?_) AllReadyH.nil
        have HC52 := Lib.hid HH51.out
        rw [if_pos (by rfl)]
        refine wp_append_src _ (.tmp 12) (.tmp 13) 37 rfl w.heap.size 54 i0 z54 33 48 Try.underlying37 hi hz0 hz1 hz2 ZC.out (by decide) (.slice (some ⟨g12, 0, none⟩) 0 0) 0 [] rfl O12_51.out sp2 n2 c2 (pks O) rfl (SRC2.out.keep0 HC52.out) (pks_one _) (by have := QM; omega) (by omega) HC52.out.size ?_
        intro v14 w52 own14 grow14 loc14
        rw [Nat.zero_add, List.nil_append] at own14
        obtain ⟨s14, d14, hv14, _, _, _, _⟩ := Src.of_own own14
        subst hv14
        have k14 := Kp.grown (F := fun q => q = g12) grow14 fun q hq => (Option.some.inj hq).symm
        have HH52 := Lib.hid (HC52.out.trans k14 fun q hq => .inr (by omega))
        have O17_52 := Lib.hid (k14.own O17_51.out fun q hq e => NE17_12.out q hq e)
        have O11_52 := Lib.hid (k14.own O11_51.out fun q hq e => NE11_12.out q hq e)
        have O14_52 := Lib.hid own14
        clear own14 grow14 loc14 k14
        refine hK.out _ _ HH52.out (fun hHeld => ?_)
        clear hK K hHeld
        have H11 := Lib.hid O11_52.out
        refine wpAnyH_take (i := 9) (v := ?v33) rfl (by kernel_rfl) (by kernel_rfl) (by kernel_rfl) (fun _ _ _ h => h) (Or.inl ⟨by rfl, ?y33⟩) (by assumption) ?r33
        case y33 =>
          intro wq hSw
          clear hSw
          go_simp
          with_reducible rfl
        simp only [Act.put, List.getElem_toArray, List.getElem_cons_succ, List.getElem_cons_zero, List.setIfInBounds_toArray, List.set_cons_zero, List.set_cons_succ]
        refine wpAnyH_ready (rs := [10]) (by kernel_rfl) (by simp) ?_
        refine AllReadyH.cons rfl (fun K hK => ?_) AllReadyH.nil
        rw [if_pos (by rfl)]
        go_simp
        have HR := Lib.hid (heap_alloc_new w52 (.cells #[.slice s11 n1 d11, .slice s14 n2 d14, .slice none 0 0, .slice s17 ns d17, .int .i64 0, .slice none 0 0] 63))
        have KZ := Lib.hid (Kp.alloc (fun _ => False) w52 (.cells #[.slice s11 n1 d11, .slice s14 n2 d14, .slice none 0 0, .slice s17 ns d17, .int .i64 0, .slice none 0 0] 63))
        refine hK.out _ _ (HH52.out.trans KZ.out fun _ (h : False) => h.elim) (fun hHeld => ?_)
        clear hK K
        refine wpAnyH_take (i := 11) (v := ?v34) rfl (by kernel_rfl) (by kernel_rfl) (by kernel_rfl) (fun _ _ _ h => h) (Or.inl ⟨by rfl, ?y34⟩) (by assumption) ?r34
        case y34 =>
          intro wq hSw
          clear hSw
          go_simp
          with_reducible rfl
        simp only [Act.put, List.getElem_toArray, List.getElem_cons_succ, List.getElem_cons_zero, List.setIfInBounds_toArray, List.set_cons_zero, List.set_cons_succ]
        refine wpAnyH_done (by kernel_rfl) ?_ _
        go_wp2_with fail
        go_meet
        case rel => exact ⟨_, s11, s14, s17, d11, d14, d17, rfl, HH52.out.size, by rw [← HN1.out, ← HN2.out]; exact HR.out, by rw [← HN1.out]; exact KZ.out.own O11_52.out fun _ _ h => h, by rw [← HN2.out]; exact KZ.out.own O14_52.out fun _ _ h => h, KZ.out.own O17_52.out fun _ _ h => h, HH52.out.trans KZ.out fun _ (h : False) => h.elim⟩
  case rest =>
    obtain ⟨R7, s1, s2, s3, d1, d2, d3, rfl, hR7, h7, o1, o2, o3, k1⟩ := hcut
    rw [← HN1.out] at h7 o1
    rw [← HN2.out] at h7 o2
    have HR7 := Lib.hid hR7
    have H7 := Lib.hid h7
    have O1 := Lib.hid o1
    have O2 := Lib.hid o2
    have O3 := Lib.hid o3
    have K1 := Lib.hid k1
    obtain ⟨v1, hv1⟩ : ∃ v, v = Value.slice s1 n1 d1 := ⟨_, rfl⟩
    obtain ⟨v2, hv2⟩ : ∃ v, v = Value.slice s2 n2 d2 := ⟨_, rfl⟩
    obtain ⟨v3, hv3⟩ : ∃ v, v = Value.slice s3 ns d3 := ⟨_, rfl⟩
    rw [← hv1] at O1 H7
    rw [← hv2] at O2 H7
    rw [← hv3] at O3 H7
    clear h7 o1 o2 o3 k1 hv1 hv2 hv3
    go_wp2_with fail
    go_loopw [8] (fun i wr => New2 w R7 v1 v2 v3 n1 n2 ns P O S i wr) (fun i _ => ns - (Go.RowKit.intOf i).toNat)
    case atStart => exact ⟨0, none, 0, [], rfl, Nat.zero_le _, H7.out, ⟨rfl, .inl ⟨rfl, rfl⟩⟩, fun i m l hm => by simp at hm, O1.out, O2.out, O3.out, K1.out⟩
    case round =>
      obtain ⟨j, s4, d4, svj, rfl, hj, h7, o4, oe, o1, o2, o3, kr⟩ := hrel
      have H7r := Lib.hid h7
      have O4r := Lib.hid o4
      have OEr := Lib.hid oe
      have O1r := Lib.hid o1
      have O2r := Lib.hid o2
      have O3r := Lib.hid o3
      have KR := Lib.hid kr
      obtain ⟨c0, c1, c2, c3, c4, c5, cf⟩ := obj_cells h7
      have C2 := Lib.hid c2
      clear c0 c1 c2 c3 c4 c5 cf h7 o4 oe o1 o2 o3 kr
      by_cases hlt : j < ns
      · obtain ⟨l, hl⟩ : ∃ l, S[j]? = some l := ⟨_, List.getElem?_eq_getElem (by rw [← HNS.out]; exact hlt)⟩
        obtain ⟨g3, o3, e3, hr3⟩ := SRC3.out.2 (by omega)
        subst e3
        obtain ⟨mm, hmm⟩ : ∃ m, sv[j]? = some m := ⟨_, List.getElem?_eq_getElem (by rw [SRC3.out.1]; omega)⟩
        obtain ⟨spl, cl, rfl, hsl⟩ := EACH.out j mm l hmm hl
        obtain ⟨nl, hnl⟩ : ∃ n, n = l.length := ⟨_, rfl⟩
        rw [← hnl] at hsl hmm
        have cs := KR.out.cell (hr3 j _ hmm) (fun h => h)
        have CS := Lib.hid cs
        have hg3 : g3 < w.heap.size := World.block_lt_of_cell? w _ (hr3 j _ hmm)
        have hll : nl ≤ 5864062014805 := by rw [hnl]; exact (HOK.out.hs l (List.mem_of_getElem? hl)).1
        have HSL : Hid (∀ u : World, Kp (fun q => (Value.slice s4 j d4).ownBlock = some q) wr u → Src u 3 spl nl (bhs l)) := Lib.hid fun u hu => ⟨hsl.1, fun hn => by
          obtain ⟨g, o, e, hr⟩ := hsl.2 hn
          refine ⟨g, o, e, rangeAt_kp (rangeAt_kp hr KR.out (fun h => h)) hu (fun e' => ?_)⟩
          have h1 := (ownsRow_block O4r.out e').1
          have h2 := rangeAt_lt hr (by rw [hsl.1]; omega)
          omega⟩
        have HL := Lib.hid hl
        have HNL := Lib.hid hnl
        have nR7 : ¬ (Value.slice s4 j d4).ownBlock = some R7 := other_type O4r.out H7r.out (by decide)
        have nG3 : ¬ (Value.slice s4 j d4).ownBlock = some g3 := fun e => by have := (ownsRow_block O4r.out e).1; omega
        have j0 : (0 : Int) ≤ (j : Int) := by omega
        have j1 : (j : Int) < (ns : Int) := by omega
        obtain ⟨i42, hj42, hy0, hy1, hy2⟩ := info_parts info42f
        obtain ⟨i40, hj40, hx0, hx1, hx2⟩ := info_parts info40f
        have hf7 := Lib.hid (frozen_of_row wr R7 2 _ _ H7r.out)
        clear hmm hr3 cs hsl hl hnl
        go_wp2_with fail
        refine wp_region_last (S := Kp (fun q => (Value.slice s4 j d4).ownBlock = some q) wr) 15 (by kernel_rfl) (Kp.drew _ _) (fun hHeld => ?_)
        refine wpAnyL_take (i := 0) (v := ?v35) rfl (by kernel_rfl) (by kernel_rfl) (by kernel_rfl) (fun _ _ _ h => h) (Or.inl ⟨by rfl, ?y35⟩) (by assumption) ?r35
        case y35 =>
          intro wq hSw
          clear hSw
          go_simp
          with_reducible rfl
        simp only [Act.put, List.getElem_toArray, List.getElem_cons_succ, List.getElem_cons_zero, List.setIfInBounds_toArray, List.set_cons_zero, List.set_cons_succ]
        refine wpAnyL_take (i := 1) (v := ?v36) rfl (by kernel_rfl) (by kernel_rfl) (by kernel_rfl) (fun _ _ _ h => h) (Or.inl ⟨by rfl, ?y36⟩) (by assumption) ?r36
        case y36 =>
          intro wq hSw
          clear hSw
          go_simp
          with_reducible rfl
        simp only [Act.put, List.getElem_toArray, List.getElem_cons_succ, List.getElem_cons_zero, List.setIfInBounds_toArray, List.set_cons_zero, List.set_cons_succ]
        refine wpAnyL_take (i := 2) (v := ?v37) rfl (by kernel_rfl) (by kernel_rfl) (by kernel_rfl) (fun _ _ _ h => h) (Or.inl ⟨by rfl, ?y37⟩) (by assumption) ?r37
        case y37 =>
          intro wq hSw
          clear hSw
          go_simp
          with_reducible rfl
        simp only [Act.put, List.getElem_toArray, List.getElem_cons_succ, List.getElem_cons_zero, List.setIfInBounds_toArray, List.set_cons_zero, List.set_cons_succ]
        refine wpAnyL_take (i := 3) (v := ?v38) rfl (by kernel_rfl) (by kernel_rfl) (by kernel_rfl) (fun _ _ _ h => h) (Or.inl ⟨by rfl, ?y38⟩) (by assumption) ?r38
        case y38 =>
          intro wq hSw
          clear hSw
          go_simp
          with_reducible rfl
        simp only [Act.put, List.getElem_toArray, List.getElem_cons_succ, List.getElem_cons_zero, List.setIfInBounds_toArray, List.set_cons_zero, List.set_cons_succ]
        refine wpAnyL_take (i := 4) (v := ?v39) rfl (by kernel_rfl) (by kernel_rfl) (by kernel_rfl) (fun _ _ _ h => h) (Or.inl ⟨by rfl, ?y39⟩) (by assumption) ?r39
        case y39 =>
          intro wq hSw
          have q0 := hSw.cell C2.out nR7
          clear hSw
          go_simp
          with_reducible rfl
        simp only [Act.put, List.getElem_toArray, List.getElem_cons_succ, List.getElem_cons_zero, List.setIfInBounds_toArray, List.set_cons_zero, List.set_cons_succ]
        refine wpAnyL_take (i := 6) (v := ?v40) rfl (by kernel_rfl) (by kernel_rfl) (by kernel_rfl) (fun _ _ _ h => h) (Or.inl ⟨by rfl, ?y40⟩) (by assumption) ?r40
        case y40 =>
          intro wq hSw
          clear hSw
          go_simp
          with_reducible rfl
        simp only [Act.put, List.getElem_toArray, List.getElem_cons_succ, List.getElem_cons_zero, List.setIfInBounds_toArray, List.set_cons_zero, List.set_cons_succ]
        refine wpAnyL_take (i := 7) (v := ?v41) rfl (by kernel_rfl) (by kernel_rfl) (by kernel_rfl) (fun _ _ _ h => h) (Or.inl ⟨by rfl, ?y41⟩) (by assumption) ?r41
        case y41 =>
          intro wq hSw
          clear hSw
          go_simp
          with_reducible rfl
        simp only [Act.put, List.getElem_toArray, List.getElem_cons_succ, List.getElem_cons_zero, List.setIfInBounds_toArray, List.set_cons_zero, List.set_cons_succ]
        refine wpAnyL_take (i := 8) (v := ?v42) rfl (by kernel_rfl) (by kernel_rfl) (by kernel_rfl) (fun _ _ _ h => h) (Or.inl ⟨by rfl, ?y42⟩) (by assumption) ?r42
        case y42 =>
          intro wq hSw
          clear hSw
          go_simp
          with_reducible rfl
        simp only [Act.put, List.getElem_toArray, List.getElem_cons_succ, List.getElem_cons_zero, List.setIfInBounds_toArray, List.set_cons_zero, List.set_cons_succ]
        refine wpAnyL_take (i := 9) (v := ?v43) rfl (by kernel_rfl) (by kernel_rfl) (by kernel_rfl) (fun _ _ _ h => h) (Or.inl ⟨by rfl, ?y43⟩) (by assumption) ?r43
        case y43 =>
          intro wq hSw
          have q0 := hSw.cell CS.out nG3
          clear hSw
          go_simp
          with_reducible rfl
        simp only [Act.put, List.getElem_toArray, List.getElem_cons_succ, List.getElem_cons_zero, List.setIfInBounds_toArray, List.set_cons_zero, List.set_cons_succ]
        refine wpAnyL_one (i := 5) (by kernel_rfl) rfl (fun K hK => ?_)
        have HA5 := Lib.hid hHeld
        rw [if_pos (by rfl)]
        refine opwp_build40 rfl ?_
        intro g5 w5 own5 eg5 sz5 k5
        have N5 := Lib.hid ((Kp.drew (fun _ => False) wr).trans k5 fun _ (h : False) => h.elim)
        have K5 := Lib.hid (N5.out.zero (F := fun q => (Value.slice s4 j d4).ownBlock = some q))
        have OWN5 := Lib.hid own5
        have KK5 := Lib.hid k5
        have gw5 : wr.heap.size ≤ g5 := by have := HA5.out.size; omega
        clear own5 k5
        refine hK.out _ _ (fun _ => K5.out) (fun hHeld => ?_)
        replace hHeld := hHeld (by decide)
        clear hK K
        refine wpAnyL_one (i := 10) (by kernel_rfl) rfl (fun K hK => ?_)
        rw [if_pos (by rfl)]
        refine wp_append_src _ (.tmp 31) (.tmp 35) 40 rfl wr.heap.size 42 i42 (.agg #[.int .i64 0, .int .i64 0, .int .i64 0]) 3 24 Try.underlying40 hj42 hy0 hy1 hy2 rfl (by decide) (.slice (some ⟨g5, 0, none⟩) 0 0) 0 [] rfl (own_low OWN5.out HA5.out.size) spl nl cl (bhs l) rfl (HSL.out _ K5.out) (bhs_one _) (by unfold maxLen; omega) (by omega) K5.out.size ?_
        intro v6 w6 own6 grow6 loc6
        rw [Nat.zero_add, List.nil_append] at own6
        obtain ⟨s6, d6, hv6, _, _, _, _⟩ := Src.of_own own6
        subst hv6
        have k6 := Kp.grown (F := fun q => q = g5) grow6 fun q hq => (Option.some.inj hq).symm
        have N6 := Lib.hid (N5.out.trans k6 fun q hq => .inr (by omega))
        have K6 := Lib.hid (N6.out.zero (F := fun q => (Value.slice s4 j d4).ownBlock = some q))
        have OWN6 := Lib.hid own6
        clear own6 grow6 k6 loc6
        refine hK.out _ _ (fun _ => K6.out) (fun hHeld => ?_)
        replace hHeld := hHeld (by decide)
        clear hK K
        refine wpAnyL_one (i := 11) (by kernel_rfl) rfl (fun K hK => ?_)
        rw [if_pos (by rfl)]
        go_simp
        have K7 := Lib.hid (K6.out.trans (Kp.alloc (fun q => (Value.slice s4 j d4).ownBlock = some q) w6 (.cells #[.slice s6 nl d6] 40)) fun q h => .inl h)
        have N7 := Lib.hid (N6.out.trans (Kp.alloc (fun _ => False) w6 (.cells #[.slice s6 nl d6] 40)) fun _ (h : False) => h.elim)
        have OWN7 := Lib.hid ((Kp.alloc (fun _ => False) w6 (.cells #[.slice s6 nl d6] 40)).own OWN6.out fun _ _ h => h)
        refine hK.out _ _ (fun _ => K7.out) (fun hHeld => ?_)
        replace hHeld := hHeld (by decide)
        clear hK K
        refine wpAnyL_one (i := 12) (by kernel_rfl) rfl (fun K hK => ?_)
        rw [if_pos (by rfl)]
        refine wp_append_src _ (.tmp 30) (.tmp 37) 23 rfl w.heap.size 40 i40 (.slice none 0 0) 1 24 Try.underlying23 hj40 hx0 hx1 hx2 rfl (by decide) (.slice s4 j d4) j svj rfl (N7.out.own O4r.out fun _ _ h => h) (some ⟨w6.heap.size, 0, none⟩) 1 1 [.slice s6 nl d6] rfl (Src.one w6 40 1 _ rfl) (by intro u hu; simp at hu; subst hu; rfl) (by unfold maxLen; omega) (by omega) (by have := KR.out.size; have := K7.out.size; omega) ?_
        intro v8 w8 own8 grow8 loc8
        obtain ⟨s8, d8, hv8, _, _, _, _⟩ := Src.of_own own8
        subst hv8
        have k8 := Kp.grown (F := fun q => (Value.slice s4 j d4).ownBlock = some q) grow8 fun q hq => hq
        have K8 := Lib.hid (K7.out.trans k8 fun q hq => .inl hq)
        have OWN8 := Lib.hid own8
        have KK8 := Lib.hid k8
        have LOC8 := Lib.hid loc8
        clear own8 grow8 k8 loc8
        refine hK.out _ _ (fun _ => K8.out) (fun hHeld => ?_)
        replace hHeld := hHeld (by decide)
        clear hK K
        refine wpAnyL_one (i := 13) (by kernel_rfl) rfl (fun K hK => ?_)
        rw [if_pos (by rfl)]
        go_simp
        refine hK.out _ _ (fun _ => hHeld) (fun hHeld => ?_)
        replace hHeld := hHeld (by decide)
        clear hK K
        refine wpAnyL_take (i := 14) (v := ?v44) rfl (by kernel_rfl) (by kernel_rfl) (by kernel_rfl) (fun _ _ _ h => h) (Or.inl ⟨by rfl, ?y44⟩) (by assumption) ?r44
        case y44 =>
          intro wq hSw
          clear hSw
          go_simp
          with_reducible rfl
        simp only [Act.put, List.getElem_toArray, List.getElem_cons_succ, List.getElem_cons_zero, List.setIfInBounds_toArray, List.set_cons_zero, List.set_cons_succ]
        refine wpAnyL_one (i := 15) (by kernel_rfl) rfl (fun K hK => ?_)
        have q2 := K8.out.cell C2.out nR7
        have qf := frozen_kp (i := 2) K8.out H7r.out nR7
        rw [if_pos (by rfl)]
        go_simp
        refine hK.out _ _ (fun h => absurd rfl h) (fun _ => ?_)
        clear hK K
        refine wpAnyL_done (by kernel_rfl) ?_ _
        try clear q2 qf
        go_wp2_with fail
        have hvl : svj.length = j := by have := O4r.out.1; omega
        have h78 := K8.out.heap H7r.out nR7
        have kT : Kp (fun q => q = R7) w8 (w8.setCell ⟨R7, 2, none⟩ (.slice s8 (j + 1) d8)) := Kp.setCell (F := fun q => q = R7) w8 (a := ⟨R7, 2, none⟩) _ rfl
        have hRlt : R7 < wr.heap.size := (Array.getElem?_eq_some_iff.1 H7r.out).1
        have hob : ∀ q, (Value.slice s4 j d4).ownBlock = some q → w.heap.size ≤ q ∧ q < wr.heap.size := fun q hq => ⟨(ownsRow_block O4r.out hq).1, (ownsRow_block O4r.out hq).2.1⟩
        have hrz := KR.out.size
        have hR7' := HR7.out
        have keepT : ∀ {e : TypeId} {sz n : Nat} {v : Value} {xs : List Value}, w8.ownsRow w.heap.size e sz v n xs → e ≠ 63 → (w8.setCell ⟨R7, 2, none⟩ (.slice s8 (j + 1) d8)).ownsRow w.heap.size e sz v n xs := fun ho he => kT.own ho fun q hq hq2 => other_type ho h78 he (by rw [hq, hq2])
        have keepA : ∀ {e : TypeId} {sz n : Nat} {v : Value} {xs : List Value}, wr.ownsRow w.heap.size e sz v n xs → e ≠ 40 → e ≠ 63 → (w8.setCell ⟨R7, 2, none⟩ (.slice s8 (j + 1) d8)).ownsRow w.heap.size e sz v n xs := fun ho he he2 => keepT (K8.out.own ho fun q hq hq2 => by
          obtain ⟨_, _, cur, hc⟩ := ownsRow_block O4r.out hq2
          exact other_type ho hc he hq) he2
        have hE : New2 w R7 v1 v2 v3 n1 n2 ns P O S (.int .i64 ((j : Int) + 1)) (w8.setCell ⟨R7, 2, none⟩ (.slice s8 (j + 1) d8)) := by
          refine ⟨j + 1, s8, d8, svj ++ [.slice s6 nl d6], by simp, by omega, ?_, keepT OWN8.out (by decide), ?_, keepA O1r.out (by decide) (by decide), keepA O2r.out (by decide) (by decide), keepA O3r.out (by decide) (by decide), ?_⟩
          · rw [heap_setCell_same _ R7 2 _ 63 _ h78]
            rfl
          · intro i m l' hm hl'
            by_cases hi2 : i < j
            · rw [List.getElem?_append_left (by omega)] at hm
              exact keepA (OEr.out i m l' hm hl') (by decide) (by decide)
            · have hij : i = j := by
                have := (List.getElem?_eq_some_iff.1 hm).1
                simp at this
                omega
              subst hij
              rw [List.getElem?_append_right (by omega), hvl, Nat.sub_self] at hm
              simp at hm
              subst hm
              rw [HL.out] at hl'
              cases hl'
              rw [← HNL.out]
              refine keepT (own_low (KK8.out.own OWN7.out fun q hq hq2 => ?_) hrz) (by decide)
              have h1 := (ownsRow_block OWN7.out hq).1
              have h2 := (hob q hq2).2
              omega
          · refine KR.out.trans ((K8.out.mono (G := fun q => (Value.slice s4 j d4).ownBlock = some q ∨ q = R7) fun q hq => .inl (.inl hq)).trans kT fun q hq => .inl (.inr hq)) fun q hq => .inr ?_
            rcases hq with hq | hq
            · exact (hob q hq).1
            · omega
        go_roundw
        case rel => exact hE
        case measure => simp [Go.RowKit.intOf]; omega
      · have hjn : j = ns := by omega
        subst hjn
        go_wp2_with fail
        go_ret
        have ha0 : askV (List.replicate S.length 0) = List.replicate j (.int .i64 0) := by simp [askV, HNS.out]
        refine ⟨⟨R7, v1, v2, .slice s4 j d4, v3, .slice none 0 0, svj⟩, rfl, ⟨HR7.out, H7r.out, by rw [HN1.out] at O1r; exact O1r.out, by rw [HN2.out] at O2r; exact O2r.out, by have := O4r.out; rw [HNS.out] at this; rw [HNS.out]; exact this, fun i m l hm hl => OEr.out i m l hm hl, ?_, ⟨rfl, .inl ⟨rfl, rfl⟩⟩, HOK.out⟩, KR.out⟩
        show wr.ownsRow w.heap.size 3 1 v3 (List.replicate S.length 0).length (askV (List.replicate S.length 0))
        rw [ha0, List.length_replicate, ← HNS.out]
        exact O3r.out

end Go.Proofs.Ytlkamfmepjddkaa
