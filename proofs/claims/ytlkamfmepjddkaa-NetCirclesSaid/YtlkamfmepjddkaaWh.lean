/- Walks: Clone, a mirror made, own's scripts. -/
import Derived.Test.YtlkamfmepjddkaaWg
import Derived.Deep.DeepCutAuto
set_option linter.unusedSimpArgs false
set_option linter.unusedVariables false
namespace Go.Proofs.Ytlkamfmepjddkaa
open Go.RowKit Go.Lib Go.Maps

set_option maxRecDepth 100000 in
set_option maxHeartbeats 4000000 in
theorem clone_any (w : World) (l : List Bh) (sp : Option Addr) (c : Nat) (hs : Src w 3 sp l.length (bhs l)) (hn : l.length ≤ 5864062014805) :
    Calls Try.prog 30 #[.slice sp l.length c] w fun e w' => ∃ s d, e = .returned (.slice s l.length d) ∧ w'.ownsRow w.heap.size 42 3 (.slice s l.length d) l.length (bhs l) ∧ Kp (fun _ => False) w w' := by
  obtain ⟨n, hnn⟩ : ∃ n, n = l.length := ⟨_, rfl⟩
  rw [← hnn] at hs hn ⊢
  have HNN := Lib.hid hnn
  have HS := Lib.hid hs
  obtain ⟨i42, hj42, hy0, hy1, hy2⟩ := info_parts info42f
  clear hnn hs
  cases sp with
  | none =>
    have hn0 : n = 0 := by
      by_cases h : n = 0
      · exact h
      · obtain ⟨g, o, e, _⟩ := HS.out.2 (by omega)
        cases e
    subst hn0
    have hl : bhs l = [] := by have := HS.out.1; exact List.eq_nil_of_length_eq_zero (by omega)
    have he : ∀ w : World, (binOp .eql 40 (.slice none 0 c) (.slice none 0 0)).run Try.prog w = .ok (.bool true) w := fun _ => by kernel_rfl
    go_enter Try.func30, Try.ntmps30
    go_wp2_with fail
    go_ret
    exact ⟨none, 0, rfl, ⟨by rw [hl]; rfl, .inl ⟨rfl, rfl⟩⟩, Kp.refl _ _⟩
  | some ad =>
    have he : ∀ w : World, (binOp .eql 40 (.slice (some ad) n c) (.slice none 0 0)).run Try.prog w = .ok (.bool false) w := fun _ => by kernel_rfl
    go_enter Try.func30, Try.ntmps30
    go_wp2_with (first
      | (refine wpList_plain rfl fun K hK => opwp_build40 rfl fun g5 w5 own5 eg5 sz5 k5 => hK _ _ ?_; have OWN5 := Lib.hid own5; have K5 := Lib.hid k5; have EG5 := Lib.hid eg5; clear own5 k5 eg5 sz5 hK)
      | (refine wpList_append_src _ rfl (.tmp 5) (.tmp 6) 40 rfl w.heap.size 42 i42 (.agg #[.int .i64 0, .int .i64 0, .int .i64 0]) 3 24 Try.underlying40 hj42 hy0 hy1 hy2 rfl (by decide) (.slice (some ⟨g5, 0, none⟩) 0 0) 0 [] rfl OWN5.out (some ad) n c (bhs l) rfl (HS.out.keep0 K5.out) (bhs_one _) (by unfold maxLen; omega) (by omega) K5.out.size ?_; intro v6 w6 own6 grow6 loc6; rw [Nat.zero_add, List.nil_append] at own6; obtain ⟨s6, d6, hv6, _, _, _, _⟩ := Src.of_own own6; subst hv6; have OWN6 := Lib.hid own6; have KT6 := Lib.hid ((K5.out.zero (F := fun q => q = g5)).trans (Kp.grown (F := fun q => q = g5) grow6 fun q hq => (Option.some.inj hq).symm) fun q hq => .inl hq); clear own6 grow6 loc6))
    go_ret
    exact ⟨s6, d6, rfl, OWN6.out, KT6.out.mono fun q hq => .inr (by have := EG5.out; omega)⟩

set_option maxHeartbeats 1000000 in
theorem mkmir_any (w : World) (l : List Bh) (sp : Option Addr) (c : Nat) (hs : Src w 3 sp l.length (bhs l)) (hn : l.length ≤ 5864062014805) :
    Calls Try.prog 29 #[.slice sp l.length c] w fun e w' => ∃ g v, e = .returned (.pointer (some ⟨g, 0, none⟩)) ∧ w.heap.size ≤ g ∧ MirP w' w.heap.size (g, v) l 0 ∧ Kp (fun _ => False) w w' := by
  obtain ⟨n, hnn⟩ : ∃ n, n = l.length := ⟨_, rfl⟩
  have hcl := clone_any w l sp c hs hn
  rw [← hnn] at hcl ⊢
  have HCL := Lib.hid hcl
  have HNN := Lib.hid hnn
  clear hnn hs hcl hn
  go_enter Try.func29, Try.ntmps29
  go_wp2_with fail
  refine HCL.out.mono ?_
  rintro e w1 ⟨s, d, rfl, ho, hk⟩
  have HO := Lib.hid ho
  have HK := Lib.hid hk
  clear ho hk
  go_wp2_with fail
  go_ret
  have ka := Kp.alloc (fun _ => False) w1 (.cells #[.slice s n d, .int .i64 0] 83)
  refine ⟨w1.heap.size, .slice s n d, rfl, HK.out.size, ⟨HK.out.size, ⟨0, heap_alloc_new w1 _, fun _ => rfl⟩, ?_⟩, HK.out.trans ka fun _ (h : False) => h.elim⟩
  have := ka.own HO.out fun _ _ h => h
  rw [HNN.out] at this
  rw [HNN.out]
  exact this

def OmRel (w : World) (S : List (List Bh)) (i acc : Value) (wr : World) : Prop :=
  ∃ (j : Nat) (s : Option Addr) (d : Nat) (ms : List (Nat × Value)), i = .int .i64 (j : Int) ∧ j ≤ S.length ∧ acc = .slice s j d ∧ wr.ownsRow w.heap.size 80 1 (.slice s j d) j (mirV ms) ∧
    (∀ (i : Nat) m l, ms[i]? = some m → S[i]? = some l → MirP wr w.heap.size m l 0) ∧ (∀ (i j : Nat) m m', ms[i]? = some m → ms[j]? = some m' → m.1 = m'.1 → i = j) ∧ (∀ m ∈ ms, m.1 < wr.heap.size) ∧ Kp (fun _ => False) w wr

theorem info80f : (Try.prog.info? 80).map (fun i => (i.zero, i.size, i.bytes)) = some (some (.pointer none), 1, 8) := by kernel_rfl

set_option maxRecDepth 100000 in
set_option maxHeartbeats 4000000 in
theorem own80_any (w : World) (S : List (List Bh)) (sp : Option Addr) (c : Nat) (sv : List Value) (hs : Src w 1 sp S.length sv)
    (each : ∀ (i : Nat) m l, sv[i]? = some m → S[i]? = some l → ∃ spl cl, m = .slice spl l.length cl ∧ Src w 3 spl l.length (bhs l)) (hn : S.length ≤ 1000) (hls : ∀ l ∈ S, l.length ≤ 5864062014805) :
    Calls Try.prog 28 #[.slice sp S.length c, .func (.func 29) #[] #[]] w fun e w' => ∃ s d ms, e = .returned (.slice s S.length d) ∧ w'.ownsRow w.heap.size 80 1 (.slice s S.length d) S.length (mirV ms) ∧
      (∀ (i : Nat) m l, ms[i]? = some m → S[i]? = some l → MirP w' w.heap.size m l 0) ∧ (∀ (i j : Nat) m m', ms[i]? = some m → ms[j]? = some m' → m.1 = m'.1 → i = j) ∧ Kp (fun _ => False) w w' := by
  obtain ⟨n, hnn⟩ : ∃ n, n = S.length := ⟨_, rfl⟩
  rw [← hnn] at hs hn ⊢
  have HNN := Lib.hid hnn
  have HS := Lib.hid hs
  have EACH := Lib.hid each
  have HLS := Lib.hid hls
  obtain ⟨i80, hi, hz0, hz1, hz2⟩ := info_parts info80f
  clear hnn hs each hls
  go_enter Try.func28, Try.ntmps28
  go_wp2_with fail
  go_loopw [10, 5] (fun i acc wr => OmRel w S i acc wr) (fun i _ _ => n - (Go.RowKit.intOf i).toNat)
  case atStart => exact ⟨0, none, 0, [], rfl, Nat.zero_le _, rfl, ⟨rfl, .inl ⟨rfl, rfl⟩⟩, fun i m l hm => by simp at hm, fun i j m m' hm => by simp at hm, fun m hm => by simp at hm, Kp.refl _ _⟩
  case round =>
    obtain ⟨j, s, d, ms, rfl, hj, rfl, ho, he, hd, hb, hk⟩ := hrel
    rw [← HNN.out] at hj
    have HO := Lib.hid ho
    have HK := Lib.hid hk
    have HE := Lib.hid he
    have HD := Lib.hid hd
    have HB := Lib.hid hb
    clear ho hk he hd hb
    by_cases hlt : j < n
    · obtain ⟨l, hl⟩ : ∃ l, S[j]? = some l := ⟨_, List.getElem?_eq_getElem (by rw [← HNN.out]; exact hlt)⟩
      obtain ⟨g, o, rfl, hr⟩ := HS.out.2 (by omega)
      obtain ⟨mm, hmm⟩ : ∃ m, sv[j]? = some m := ⟨_, List.getElem?_eq_getElem (by rw [HS.out.1]; omega)⟩
      obtain ⟨spl, cl, rfl, hsl⟩ := EACH.out j mm l hmm hl
      have cs := HK.out.cell (hr j _ hmm) (fun h => h)
      have HSL := Lib.hid (hsl.keep0 HK.out)
      have HL := Lib.hid hl
      have hll := Lib.hid (HLS.out l (List.mem_of_getElem? hl))
      obtain ⟨nl, hnl⟩ : ∃ k, k = l.length := ⟨_, rfl⟩
      rw [← hnl] at cs
      have HNL := Lib.hid hnl
      have j0 : (0 : Int) ≤ (j : Int) := by omega
      have j1 : (j : Int) < (n : Int) := by omega
      clear hr hmm hsl hl hnl
      go_wp2_with fail
      have hmk := mkmir_any wr l spl cl HSL.out hll.out
      rw [← HNL.out] at hmk
      refine hmk.mono ?_
      rintro e w1 ⟨gm, vm, rfl, hgm, hM, k1⟩
      dsimp only
      have HM := Lib.hid hM
      have K1 := Lib.hid k1
      have hgm2 : gm < w1.heap.size := by obtain ⟨c, hc, _⟩ := hM.cnt; exact (Array.getElem?_eq_some_iff.1 hc).1
      clear hmk hM k1 cs
      go_wp2_with (refine wpList_append_src _ rfl (.tmp 14) (.tmp 18) 69 rfl w.heap.size 80 i80 (.pointer none) 1 8 Try.underlying69 hi hz0 hz1 hz2 rfl (by decide) (.slice s j d) j (mirV ms) rfl ((K1.out.trans (Kp.alloc (fun _ => False) w1 _) fun _ (h : False) => h.elim).own HO.out fun _ _ h => h) (some ⟨w1.heap.size, 0, none⟩) 1 1 [.pointer (some ⟨gm, 0, none⟩)] rfl (Src.one w1 80 1 _ rfl) (by intro u hu; simp at hu; subst hu; rfl) (by unfold maxLen; omega) (by omega) (by have := HK.out.size; have := K1.out.size; simp; omega) ?_; intro v6 w6 own6 grow6 loc6; obtain ⟨s6, d6, hv6, _, _, _, _⟩ := Src.of_own own6; subst hv6; have OWN6 := Lib.hid own6; have KA6 := Lib.hid (((Kp.alloc (fun _ => False) w1 (.cells #[.pointer (some ⟨gm, 0, none⟩)] 80)).zero (F := fun q => (Value.slice s j d).ownBlock = some q)).trans (Kp.grown (F := fun q => (Value.slice s j d).ownBlock = some q) grow6 fun q hq => hq) fun q hq => .inl hq); clear own6 grow6 loc6)
      have hml : ms.length = j := by have := HO.out.1; simp [mirV] at this; omega
      have KT : Kp (fun q => (Value.slice s j d).ownBlock = some q) wr w6 := (K1.out.zero).trans KA6.out fun q hq => .inl hq
      have hsz := KA6.out.size
      have hTr : ∀ q, (Value.slice s j d).ownBlock = some q → ∃ cur, wr.heap[q]? = some (.cells cur 80 (0, 0)) := fun q hq => (ownsRow_block HO.out hq).2.2
      have hT1 : ∀ q, (Value.slice s j d).ownBlock = some q → ∃ cur, w1.heap[q]? = some (.cells cur 80 (0, 0)) := fun q hq => by
        obtain ⟨cur, hc⟩ := hTr q hq
        exact ⟨cur, K1.out.heap hc (fun h => h)⟩
      have keepM : ∀ {u : World} {m : Nat × Value} {l : List Bh} {B : Nat}, MirP u B m l 0 → Kp (fun q => (Value.slice s j d).ownBlock = some q) u w6 → (∀ q, (Value.slice s j d).ownBlock = some q → ∃ cur, u.heap[q]? = some (.cells cur 80 (0, 0))) → MirP w6 B m l 0 := by
        intro u m l B M hk hq
        refine M.keep hk (fun e => ?_) fun k hk2 e => ?_
        · obtain ⟨c, hc, _⟩ := M.cnt
          obtain ⟨cur, hcur⟩ := hq _ e
          rw [hcur] at hc
          injection hc with hc
          injection hc with _ ht
          exact absurd ht (by decide)
        · obtain ⟨cur, hcur⟩ := hq _ e
          exact other_type M.scr hcur (by decide) hk2
      have hrw := HK.out.size
      have hk1s := K1.out.size
      have hrel2 : OmRel w S (.int .i64 ((j : Int) + 1)) (.slice s6 (j + 1) d6) w6 := by
        refine ⟨j + 1, s6, d6, ms ++ [(gm, vm)], by simp, by rw [← HNN.out]; omega, rfl, ?_, ?_, ?_, ?_, HK.out.trans KT fun q hq => .inr (ownsRow_block HO.out hq).1⟩
        · have := OWN6.out
          simpa [mirV] using this
        · intro i m l' hm hl'
          by_cases hij : i < j
          · rw [List.getElem?_append_left (by omega)] at hm
            exact keepM (HE.out i m l' hm hl') KT hTr
          · have hij2 : i = j := by
              have := (List.getElem?_eq_some_iff.1 hm).1
              simp at this
              omega
            subst hij2
            rw [List.getElem?_append_right (by omega), hml, Nat.sub_self] at hm
            simp at hm
            subst hm
            rw [HL.out] at hl'
            cases hl'
            have M6 := keepM HM.out KA6.out hT1
            exact ⟨by have := M6.hB; omega, M6.cnt, own_low M6.scr hrw⟩
        · intro a b m m' ha hb' he'
          by_cases h1 : a < j <;> by_cases h2 : b < j
          · rw [List.getElem?_append_left (by omega)] at ha hb'
            exact HD.out a b m m' ha hb' he'
          · rw [List.getElem?_append_left (by omega)] at ha
            rw [List.getElem?_append_right (by omega)] at hb'
            have hb2 : m' = (gm, vm) := by
              have := List.mem_of_getElem? hb'
              simpa using this
            have := HB.out m (List.mem_of_getElem? ha)
            rw [he', hb2] at this
            simp at this
            omega
          · rw [List.getElem?_append_right (by omega)] at ha
            rw [List.getElem?_append_left (by omega)] at hb'
            have ha2 : m = (gm, vm) := by
              have := List.mem_of_getElem? ha
              simpa using this
            have := HB.out m' (List.mem_of_getElem? hb')
            rw [← he', ha2] at this
            simp at this
            omega
          · have h3 := (List.getElem?_eq_some_iff.1 ha).1
            have h4 := (List.getElem?_eq_some_iff.1 hb').1
            simp at h3 h4
            omega
        · intro m hm
          simp at hm
          rcases hm with hm | hm
          · have := HB.out m hm; omega
          · subst hm; simp; omega
      go_roundw
      case rel => exact hrel2
      case measure => simp [Go.RowKit.intOf]; omega
    · have hjn : j = n := by omega
      subst hjn
      go_wp2_with fail
      go_ret
      exact ⟨s, d, ms, rfl, HO.out, HE.out, HD.out, HK.out⟩

end Go.Proofs.Ytlkamfmepjddkaa
