/- Walk: the scripts of a world. -/
import Derived.Test.YtlkamfmepjddkaaQ2
import Derived.Test.YtlkamfmepjddkaaWh
import Derived.Deep.MidRow
set_option linter.unusedSimpArgs false
set_option linter.unusedVariables false
namespace Go.Proofs.Ytlkamfmepjddkaa
open Go.RowKit Go.Lib Go.Maps

def modB (x : Bh) : Bh := ⟨x.k, x.d.tmod 1000000, x.n⟩
def scL (LS : List (List Bh)) : List (List Bh) := (LS.take 5).map (·.map modB)

/-- The scripts that an argument holds. -/
def ScrSrc (w : World) (sp : Option Addr) (sv : List Value) (LS : List (List Bh)) : Prop :=
  Src w 1 sp LS.length sv ∧ ∀ (i : Nat) m l, sv[i]? = some m → LS[i]? = some l → ∃ spl cl, m = .slice spl l.length cl ∧ Src w 3 spl l.length (bhs l)

/-- Fresh rows of scripts. -/
def ScrOwn (w : World) (B : Nat) (v : Value) (n : Nat) (sv : List Value) (S : List (List Bh)) : Prop :=
  w.ownsRow B 40 1 v n sv ∧ ∀ (i : Nat) m l, sv[i]? = some m → S[i]? = some l → w.ownsRow B 42 3 m l.length (bhs l)

def ScRel (w0 : World) (LS : List (List Bh)) (i acc : Value) (wr : World) : Prop :=
  ∃ (j : Nat) (s : Option Addr) (d : Nat) (svj : List Value), i = .int .i64 (j : Int) ∧ j ≤ LS.length ∧ j ≤ 5 ∧ acc = .slice s j d ∧ ScrOwn wr w0.heap.size (.slice s j d) j svj ((LS.take j).map (·.map modB)) ∧ Kp (fun _ => False) w0 wr

/-- Inside: the first k behaviours are turned. -/
def ScIn (w5 : World) (B : Nat) (v : Value) (l : List Bh) (i : Value) (wr : World) : Prop :=
  ∃ k : Nat, i = .int .i64 (k : Int) ∧ k ≤ l.length ∧ wr.ownsRow B 42 3 v l.length (bhs ((l.take k).map modB ++ l.drop k)) ∧ Kp (fun q => v.ownBlock = some q) w5 wr

def ScPost (w : World) (LS : List (List Bh)) (e : Ending) (w' : World) : Prop :=
  ∃ s d sv, e = .returned (.slice s (scL LS).length d) ∧ ScrOwn w' w.heap.size (.slice s (scL LS).length d) (scL LS).length sv (scL LS) ∧ Kp (fun _ => False) w w'

theorem own_setN {w : World} {B : Nat} {e : TypeId} {v : Value} {n sz : Nat} {xs : List Value} (h : w.ownsRow B e sz v n xs) {g : Nat} (hg : v.ownBlock = some g) (j : Nat) (hj : j < n * sz) (u : Value) :
    (w.setCell ⟨g, j, none⟩ u).ownsRow B e sz v n (xs.set j u) := by
  refine ⟨by rw [List.length_set]; exact h.1, ?_⟩
  rcases h.2 with ⟨rfl, rfl⟩ | ⟨g', cap, cur, rfl, hb, hh, hn, hm, hs, ht⟩
  · have := h.1; simp at this; omega
  · obtain rfl : g' = g := by simpa [Value.ownBlock] using hg
    refine .inr ⟨g', cap, _, rfl, hb, heap_setCell_same w g' j cur e u hh, hn, hm, by simpa using hs, ?_⟩
    rw [Array.toList_setIfInBounds, ← ht, List.take_set]

theorem bhs_append (a b : List Bh) : bhs (a ++ b) = bhs a ++ bhs b := by simp [bhs]
theorem bhs_step (l : List Bh) (k : Nat) (x : Bh) (h : l[k]? = some x) : (bhs ((l.take k).map modB ++ l.drop k)).set (k * 3 + 1) (.int .i64 (x.d.tmod 1000000)) = bhs ((l.take (k + 1)).map modB ++ l.drop (k + 1)) := by
  obtain ⟨hlt, he⟩ := List.getElem?_eq_some_iff.1 h
  have hd : l.drop k = x :: l.drop (k + 1) := by rw [← he]; exact (List.getElem_cons_drop hlt).symm
  have hl : (bhs ((l.take k).map modB)).length = k * 3 := by rw [bhs_len]; simp; omega
  rw [hd, List.take_succ_eq_append_getElem hlt, he, bhs_append, List.map_append, List.append_assoc, bhs_append, List.set_append_right _ _ (by omega), hl, Nat.add_sub_cancel_left]
  rfl
theorem wpList_build40 {w : World} {ops : Array Oper} {rest : List Oper} {o : Oper} {a : Act} {Q : Exit → Act → World → Prop} (hgd : o.guard = none) (ho : o.op = .buildSlice 40 0 #[])
    (h : ∀ g w', w'.ownsRow w.heap.size 42 3 (.slice (some ⟨g, 0, none⟩) 0 0) 0 [] → g = w.heap.size → w'.heap.size = g + 1 → Kp (fun _ => False) w w' → wpList Try.prog ops Q rest (a.put o.dst (.slice (some ⟨g, 0, none⟩) 0 0)) w') : wpList Try.prog ops Q (o :: rest) a w :=
  wpList_plain hgd fun _ hK => opwp_build40 ho fun g w' h1 h2 h3 h4 => hK _ _ (h g w' h1 h2 h3 h4)
theorem own_cells {w : World} {B : Nat} {e : TypeId} {n sz : Nat} {s : Option Addr} {d : Nat} {xs : List Value} (h : w.ownsRow B e sz (.slice s n d) n xs) (hn : 0 < n) : ∃ g, s = some ⟨g, 0, none⟩ ∧ (Value.slice s n d).ownBlock = some g ∧ w.rangeAt g 0 xs ∧ (∀ j, w.frozen? ⟨g, j, none⟩ = false) ∧ B ≤ g := by
  rcases h.2 with ⟨e1, _⟩ | ⟨g, cap, cur, e1, hb, hg, hnc, hm, hs, ht⟩
  · cases e1; omega
  · cases e1
    refine ⟨g, rfl, rfl, fun j u hu => ?_, fun j => frozen_of_row _ _ _ _ _ hg, hb⟩
    have := World.ownsRow.cells h rfl j u hu
    rwa [addr0] at this

set_option maxRecDepth 100000 in
set_option maxHeartbeats 4000000 in
theorem scripts_any (w : World) (LS : List (List Bh)) (sp : Option Addr) (c : Nat) (sv : List Value) (vp vo : Value) (hs : ScrSrc w sp sv LS) (hl : ∀ l ∈ LS, l.length ≤ 5864062014805) :
    Calls Try.prog 19 #[.agg #[vp, vo, .slice sp LS.length c]] w (ScPost w LS) := by
  obtain ⟨n, hnn⟩ : ∃ n, n = LS.length := ⟨_, rfl⟩
  obtain ⟨w0, hw0⟩ : ∃ w0, w0 = w.alloc (.cells #[vp, vo, .slice sp LS.length c] 25) := ⟨_, rfl⟩
  have k0 : Kp (fun _ => False) w w0 := by rw [hw0]; exact Kp.alloc _ _ _
  have hR : w0.heap[w.heap.size]? = some (.cells #[vp, vo, .slice sp LS.length c] 25 (0, 0)) := by rw [hw0]; exact heap_alloc_new w _
  rw [← hnn] at hw0 hR ⊢
  have HNN := Lib.hid hnn
  have HS := Lib.hid hs
  have HL := Lib.hid hl
  have K0 := Lib.hid k0
  have C2 : Hid (w0.cell? ⟨w.heap.size, 2, none⟩ = some (.slice sp n c)) := Lib.hid (cell_of_row _ _ 2 _ _ _ hR)
  have hsrc : Src w0 1 sp n sv := by rw [hnn]; exact hs.1.keep0 k0
  have HSRC := Lib.hid hsrc
  obtain ⟨i42, hi42, hza, hzb, hzc⟩ := info_parts info42f
  obtain ⟨i40, hi40, hya, hyb, hyc⟩ := info_parts info40f
  clear hnn hs hl k0 hR hsrc
  go_enter Try.func19, Try.ntmps19
  go_wp2_with fail
  rw [← hw0]
  clear hw0
  go_loopw [4, 3] (fun i acc wr => ScRel w0 LS i acc wr) (fun i _ _ => n - (Go.RowKit.intOf i).toNat)
  case atStart => exact ⟨0, none, 0, [], rfl, Nat.zero_le _, Nat.zero_le _, rfl, ⟨⟨rfl, .inl ⟨rfl, rfl⟩⟩, fun i m l hm => by simp at hm⟩, Kp.refl _ _⟩
  case round =>
    obtain ⟨wO, rfl⟩ : ∃ x, x = wr := ⟨_, rfl⟩
    obtain ⟨j, s, d, svj, rfl, hj, hj5, rfl, ho, hk⟩ := hrel
    rw [← HNN.out] at hj
    have HO := Lib.hid ho
    have HK := Lib.hid hk
    have c2 := hk.cell C2.out (fun h => h)
    clear ho hk
    by_cases hlt : j < n
    · by_cases h5 : j < 5
      · obtain ⟨l, hlj⟩ : ∃ l, LS[j]? = some l := ⟨_, List.getElem?_eq_getElem (by rw [← HNN.out]; exact hlt)⟩
        obtain ⟨g, o, rfl, hr⟩ := HSRC.out.2 (by omega)
        obtain ⟨mm, hmm⟩ : ∃ m, sv[j]? = some m := ⟨_, List.getElem?_eq_getElem (by rw [HSRC.out.1]; omega)⟩
        obtain ⟨spl, cl, rfl, hsl⟩ := HS.out.2 j mm l hmm hlj
        have cs := HK.out.cell (hr j _ hmm) (fun h => h)
        have HSL := Lib.hid ((hsl.keep0 K0.out).keep0 HK.out)
        have hll := HL.out l (List.mem_of_getElem? hlj)
        obtain ⟨nl, hnl⟩ : ∃ k, k = l.length := ⟨_, rfl⟩
        rw [← hnl] at cs hll
        have HNL := Lib.hid hnl
        have HLJ := Lib.hid hlj
        have j0 : (0 : Int) ≤ (j : Int) := by omega
        have j1 : (j : Int) < (n : Int) := by omega
        have j5 : (j : Int) < 5 := by omega
        have hll2 : (nl : Int) ≤ 5864062014805 := by omega
        have hsl2 := HSL.out
        rw [← hnl] at hsl2
        have HSL2 := Lib.hid hsl2
        clear hr hmm hsl hlj hnl hsl2
        go_wp2_with (first
          | (refine wpList_build40 rfl rfl ?_; intro g1 w1 own1 eg1 sz1 k1; have OWN1 := Lib.hid own1; have K1 := Lib.hid k1; have d2 := k1.cell c2 (fun h => h); have ds := k1.cell cs (fun h => h); have D2 := Lib.hid d2; clear own1 eg1 sz1 k1)
          | (refine wpList_append_src _ rfl (.tmp 18) (.tmp 23) 40 rfl wO.heap.size 42 i42 (.agg #[.int .i64 0, .int .i64 0, .int .i64 0]) 3 24 Try.underlying40 hi42 hza hzb hzc rfl (by decide) (.slice (some ⟨g1, 0, none⟩) 0 0) 0 [] rfl OWN1.out spl nl cl (bhs l) rfl (HSL2.out.keep0 K1.out) (bhs_one _) (by unfold maxLen; omega) (by omega) K1.out.size ?_; intro v5 w5 own5 grow5 loc5; rw [Nat.zero_add, List.nil_append] at own5; obtain ⟨s5, d5, hv5, _, _, _, _⟩ := Src.of_own own5; subst hv5; have OWN5 := Lib.hid own5; have K5 : Hid (Kp (fun _ => False) wO w5) := Lib.hid (K1.out.trans (Kp.grown (F := fun q => (Value.slice (some ⟨g1, 0, none⟩) 0 0).ownBlock = some q) grow5 fun q hq => hq) fun q hq => .inr (ownsRow_block OWN1.out hq).1); clear own5 grow5 loc5 c2 cs d2 ds))
        go_loopw [6] (fun i wi => ScIn w5 wO.heap.size (.slice s5 nl d5) l i wi) (fun i _ => nl - (Go.RowKit.intOf i).toNat)
        case atStart => exact ⟨0, rfl, Nat.zero_le _, by rw [← HNL.out]; exact OWN5.out, Kp.refl _ _⟩
        case round =>
          obtain ⟨k, rfl, hkl, hown, hkp⟩ := hrel
          rw [← HNL.out] at hkl hown
          have HOWN := Lib.hid hown
          have HKP := Lib.hid hkp
          clear hown hkp
          by_cases hkn : k < nl
          · obtain ⟨x, hx⟩ : ∃ x, l[k]? = some x := ⟨_, List.getElem?_eq_getElem (by rw [← HNL.out]; exact hkn)⟩
            obtain ⟨g5, rfl, hob, hrg, hfz, hg5⟩ := own_cells HOWN.out (by omega)
            have hbs := bhs_step l k x hx
            have hdc : wr.cell? ⟨g5, k * 3 + 1, none⟩ = some (.int .i64 x.d) := by
              have hd : l.drop k = x :: l.drop (k + 1) := by
                obtain ⟨hlt', he⟩ := List.getElem?_eq_some_iff.1 hx
                rw [← he]; exact (List.getElem_cons_drop hlt').symm
              have hl1 : (bhs ((l.take k).map modB)).length = k * 3 := by rw [bhs_len, List.length_map, List.length_take]; have := HNL.out; omega
              have := hrg (k * 3 + 1) (.int .i64 x.d) (by rw [hd, bhs_append, List.getElem?_append_right (by omega), hl1, Nat.add_sub_cancel_left]; rfl)
              rwa [Nat.zero_add] at this
            have hdf := hfz (k * 3 + 1)
            have HBS := Lib.hid hbs
            have k0 : (0 : Int) ≤ (k : Int) := by omega
            have k1 : (k : Int) < (nl : Int) := by omega
            have HG5 := Lib.hid hg5
            clear hx hob hrg hfz hbs hg5
            go_wp2_with fail
            go_roundw
            case rel => 
              refine ⟨k + 1, by simp, by rw [← HNL.out]; omega, ?_, HKP.out.trans (Kp.setCell (F := fun q => (Value.slice (some ⟨g5, 0, none⟩) nl d5).ownBlock = some q) wr (a := ⟨g5, k * 3 + 1, none⟩) _ rfl) fun q hq => .inl hq⟩
              have := own_setN HOWN.out (g := g5) rfl (k * 3 + 1) (by omega) (.int .i64 (x.d.tmod 1000000))
              rw [HBS.out] at this
              rw [← HNL.out]
              exact this
            case measure => simp [Go.RowKit.intOf]; omega
          · have hkk : k = nl := by omega
            have hfin : bhs ((l.take k).map modB ++ l.drop k) = bhs (l.map modB) := by rw [hkk, HNL.out, List.take_length, List.drop_length, List.append_nil]
            have HOF : Hid (wr.ownsRow wO.heap.size 42 3 (.slice s5 nl d5) nl (bhs (l.map modB))) := Lib.hid (hfin ▸ HOWN.out)
            have KO : Hid (Kp (fun _ => False) wO wr) := Lib.hid (K5.out.trans HKP.out fun q hq => .inr (ownsRow_block OWN5.out hq).1)
            clear hfin
            subst hkk
            go_wp2_with (first
              | (refine wpList_append_src _ rfl (.tmp 41) (.tmp 43) 23 rfl w0.heap.size 40 i40 (.slice none 0 0) 1 24 Try.underlying23 hi40 hya hyb hyc rfl (by decide) (.slice s j d) j svj rfl ((KO.out.trans (Kp.alloc (fun _ => False) wr _) fun _ (h : False) => h.elim).own HO.out.1 fun _ _ h => h) (some ⟨wr.heap.size, 0, none⟩) 1 1 [.slice s5 k d5] rfl (Src.one wr 40 1 _ rfl) (by intro u hu; simp at hu; subst hu; rfl) (by unfold maxLen; omega) (by omega) (by have := HK.out.size; have := KO.out.size; simp; omega) ?_; intro v6 w6 own6 grow6 loc6; obtain ⟨s6, d6, hv6, _, _, _, _⟩ := Src.of_own own6; subst hv6; have OWN6 := Lib.hid own6; have KA6 := Lib.hid (((Kp.alloc (fun _ => False) wr (.cells #[.slice s5 k d5] 40)).zero (F := fun q => (Value.slice s j d).ownBlock = some q)).trans (Kp.grown (F := fun q => (Value.slice s j d).ownBlock = some q) grow6 fun q hq => hq) fun q hq => .inl hq); clear own6 grow6 loc6))
            have KT : Kp (fun q => (Value.slice s j d).ownBlock = some q) wO w6 := (KO.out.zero).trans KA6.out fun q hq => .inl hq
            have hsvl : svj.length = j := by have := HO.out.1.1; simpa using this
            have hT : ∀ q, (Value.slice s j d).ownBlock = some q → ∃ cur, wO.heap[q]? = some (.cells cur 40 (0, 0)) := fun q hq => (ownsRow_block HO.out.1 hq).2.2
            have hrw := HK.out.size
            have hrel2 : ScRel w0 LS (.int .i64 ((j : Int) + 1)) (.slice s6 (j + 1) d6) w6 := by
              refine ⟨j + 1, s6, d6, svj ++ [.slice s5 k d5], by simp, by rw [← HNN.out]; omega, by omega, rfl, ⟨OWN6.out, fun i m l' hm hl' => ?_⟩, HK.out.trans KT fun q hq => .inr (ownsRow_block HO.out.1 hq).1⟩
              by_cases hij : i < j
              · rw [List.getElem?_append_left (by omega)] at hm
                have hl2 : ((LS.take j).map (·.map modB))[i]? = some l' := by
                  rw [List.getElem?_map, List.getElem?_take_of_lt (by omega)] at hl' ⊢
                  exact hl'
                have h1 := HO.out.2 i m l' hm hl2
                exact KT.own h1 fun q hq e => by
                  obtain ⟨cur, hc⟩ := hT q e
                  exact other_type h1 hc (by decide) hq
              · have hij2 : i = j := by
                  have := (List.getElem?_eq_some_iff.1 hm).1
                  simp at this
                  omega
                subst hij2
                rw [List.getElem?_append_right (by omega), hsvl, Nat.sub_self] at hm
                simp at hm
                subst hm
                rw [List.getElem?_map, List.getElem?_take_of_lt (by omega), HLJ.out] at hl'
                simp at hl'
                subst hl'
                rw [List.length_map, ← HNL.out]
                refine own_low (KA6.out.own HOF.out fun q hq e => ?_) hrw
                obtain ⟨cur, hc⟩ := hT q e
                exact other_type HOF.out (KO.out.heap hc (fun h => h)) (by decide) hq
            go_roundw
            case rel => exact hrel2
            case measure => simp [Go.RowKit.intOf]; omega
      · have h55 : j = 5 := by omega
        subst h55
        clear h5
        go_wp2_with fail
        go_ret
        have hl5 : scL LS = (LS.take 5).map (·.map modB) := rfl
        have hln : (scL LS).length = 5 := by rw [hl5, List.length_map, List.length_take]; have := HNN.out; omega
        refine ⟨s, d, svj, by rw [hln]; rfl, by rw [hln, hl5]; exact ⟨own_low HO.out.1 K0.out.size, fun i m l hm hl => own_low (HO.out.2 i m l hm hl) K0.out.size⟩, K0.out.trans HK.out fun _ h => h.elim⟩
    · have hjn : j = n := by omega
      subst hjn
      go_wp2_with fail
      go_ret
      have hl5 : scL LS = (LS.take j).map (·.map modB) := by unfold scL; rw [List.take_of_length_le (by rw [← HNN.out]; omega), List.take_of_length_le (by rw [← HNN.out]; omega)]
      have hln : (scL LS).length = j := by rw [hl5, List.length_map, List.length_take]; have := HNN.out; omega
      refine ⟨s, d, svj, by rw [hln]; rfl, by rw [hln, hl5]; exact ⟨own_low HO.out.1 K0.out.size, fun i m l hm hl => own_low (HO.out.2 i m l hm hl) K0.out.size⟩, K0.out.trans HK.out fun _ h => h.elim⟩

end Go.Proofs.Ytlkamfmepjddkaa
