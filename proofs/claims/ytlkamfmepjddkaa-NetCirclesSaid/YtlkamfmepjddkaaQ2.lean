/- Walk: the packets that texts determine. -/
import Derived.Test.YtlkamfmepjddkaaQ1
import Derived.Test.YtlkamfmepjddkaaWg
set_option linter.unusedSimpArgs false
set_option linter.unusedVariables false
namespace Go.Proofs.Ytlkamfmepjddkaa
open Go.RowKit Go.Lib Go.Maps

theorem opwp_lit37 {w : World} {o : Oper} {a : Act} {K : Act → World → Prop} {Q : Exit → Act → World → Prop} (x : Operand) (ho : o.op = .buildSlice 37 1 #[(0, x)]) (cs : List Value) (hx : a.eval x = .agg cs.toArray) (hl : cs.length = 33)
    (h : ∀ g w', w'.heap[g]? = some (.cells cs.toArray 54 (0, 0)) → g = w.heap.size → w'.heap.size = g + 1 → Kp (fun _ => False) w w' → K (a.put o.dst (.slice (some ⟨g, 0, none⟩) 1 1)) w') : o.wp Try.prog a w K Q := by
  obtain ⟨i0, hi, hz0, hz1, hz2⟩ := info_parts info54
  have hzs : (Value.agg (List.replicate 32 (Value.int .u8 0) ++ [Value.string emptyS]).toArray).cells.size = 33 := by kernel_rfl
  have hf := Great.fill_whole (s := 33) (by decide) [Value.agg cs.toArray] ((Array.range (1 * i0.size)).map ((Value.agg (List.replicate 32 (Value.int .u8 0) ++ [Value.string emptyS]).toArray).cells[· % (Value.agg (List.replicate 32 (Value.int .u8 0) ++ [Value.string emptyS]).toArray).cells.size]!)) (by intro v hv; simp at hv; subst hv; simpa [Value.cells] using hl) (by simp [hz1])
  refine wp_buildSlice 37 54 1 #[(0, x)] ho cs.toArray i0 _ Try.underlying37 hi hz0 (by rw [hz1]; omega) (by rw [hz1]; omega) ?_ (h _ _ (heap_alloc_new w _) rfl (by simp) (Kp.alloc _ _ _))
  rw [hz1]
  rw [hz1] at hf
  simpa [hx, Value.cells] using hf

def cutS (s : ByteArray) : ByteArray := s.extract 0 (min s.size 60)
def pkOf (L : List ByteArray) (i : Nat) : Pk := ⟨hashK (UInt8.ofNat (i + 1)), cutS (L.getD i emptyS)⟩
def pkN (L : List ByteArray) (n : Nat) : List Pk := (List.range n).map (pkOf L)
def pkL (L : List ByteArray) : List Pk := pkN L (min L.length 8)

theorem pkN_len (L : List ByteArray) (n : Nat) : (pkN L n).length = n := by simp [pkN]
theorem pkN_succ (L : List ByteArray) (n : Nat) : pkN L (n + 1) = pkN L n ++ [pkOf L n] := by simp [pkN, List.range_succ]
theorem cutS_size (s : ByteArray) : (cutS s).size ≤ 60 := by
  simp only [cutS, ByteArray.size_extract]
  omega
theorem pkN_ok (L : List ByteArray) (n : Nat) : ∀ p ∈ pkN L n, p.h.length = 32 ∧ p.b.size ≤ 100 := by
  intro p hp
  obtain ⟨i, _, rfl⟩ := List.mem_map.1 hp
  exact ⟨hashK_len _, Nat.le_trans (cutS_size _) (by decide)⟩

def PkRel (w : World) (L : List ByteArray) (i acc : Value) (wr : World) : Prop :=
  ∃ (j : Nat) (s : Option Addr) (d : Nat), i = .int .i64 (j : Int) ∧ j ≤ L.length ∧ j ≤ 8 ∧ acc = .slice s j d ∧ wr.ownsRow w.heap.size 54 33 (.slice s j d) j (pks (pkN L j)) ∧ Kp (fun _ => False) w wr

def PkPost (w : World) (L : List ByteArray) (e : Ending) (w' : World) : Prop :=
  ∃ s d, e = .returned (.slice s (pkL L).length d) ∧ w'.ownsRow w.heap.size 54 33 (.slice s (pkL L).length d) (pkL L).length (pks (pkL L)) ∧ Kp (fun _ => False) w w'

theorem str_cell {w : World} {g o i : Nat} {L : List ByteArray} {t : ByteArray} (hr : w.rangeAt g o (strV L)) (h : L[i]? = some t) : w.cell? ⟨g, o + i, none⟩ = some (.string t) := hr i _ (by simp [strV, h])

set_option maxRecDepth 100000 in
set_option maxHeartbeats 4000000 in
theorem packets_any (w : World) (L : List ByteArray) (sp : Option Addr) (c : Nat) (hs : Src w 1 sp L.length (strV L)) (hz : ∀ s ∈ L, s.size ≤ 9223372036854775807) :
    Calls Try.prog 13 #[.slice sp L.length c] w (PkPost w L) := by
  obtain ⟨n, hnn⟩ : ∃ n, n = L.length := ⟨_, rfl⟩
  rw [← hnn] at hs ⊢
  have HNN := Lib.hid hnn
  have HS := Lib.hid hs
  have HZ := Lib.hid hz
  obtain ⟨i0, hi, hz0, hz1, hz2⟩ := info_parts info54
  obtain ⟨z54, hz54⟩ : ∃ z, z = (Value.agg (List.replicate 32 (Value.int .u8 0) ++ [Value.string emptyS]).toArray) := ⟨_, rfl⟩
  rw [← hz54] at hz0
  have ZC : Hid (z54.cells.size = 33) := Lib.hid (by rw [hz54]; kernel_rfl)
  clear hnn hs hz hz54
  go_enter Try.func13, Try.ntmps13
  go_wp2_with fail
  go_loopw [4, 3] (fun i acc wr => PkRel w L i acc wr) (fun i _ _ => n - (Go.RowKit.intOf i).toNat)
  case atStart => exact ⟨0, none, 0, rfl, Nat.zero_le _, Nat.zero_le _, rfl, ⟨rfl, .inl ⟨rfl, rfl⟩⟩, Kp.refl _ _⟩
  case round =>
    obtain ⟨j, s, d, rfl, hj, hj8, rfl, ho, hk⟩ := hrel
    rw [← HNN.out] at hj
    have HO := Lib.hid ho
    have HK := Lib.hid hk
    clear ho hk
    by_cases hlt : j < n
    · by_cases h8 : j < 8
      · obtain ⟨t, ht⟩ : ∃ t, L[j]? = some t := ⟨_, List.getElem?_eq_getElem (by rw [← HNN.out]; exact hlt)⟩
        obtain ⟨g, o, rfl, hr⟩ := HS.out.2 (by omega)
        have ct := HK.out.cell (str_cell hr ht) (fun h => h)
        have CT := Lib.hid ct
        have hts : t.size ≤ 9223372036854775807 := HZ.out t (List.mem_of_getElem? ht)
        obtain ⟨ch, hch⟩ : ∃ ch, ch = UInt8.ofNat (j + 1) := ⟨_, rfl⟩
        have WR : Hid (IntKind.u8.wrap ((j : Int) + 1) = (ch.toNat : Int)) := Lib.hid (by rw [hch]; simp [IntKind.wrap, IntKind.signed, IntKind.bits, UInt8.toNat_ofNat'])
        obtain ⟨p, hp⟩ : ∃ p, p = pkOf L j := ⟨_, rfl⟩
        have HP : Hid (p = ⟨hashK ch, cutS t⟩) := Lib.hid (by rw [hp, hch]; simp [pkOf, List.getD, ht])
        have HPK : Hid (pks (pkN L (j + 1)) = pks (pkN L j) ++ pkCells ⟨hashK ch, cutS t⟩) := Lib.hid (by rw [pkN_succ, ← hp, HP.out]; simp [pks])
        have j0 : (0 : Int) ≤ (j : Int) := by omega
        have j1 : (j : Int) < (n : Int) := by omega
        have j8 : (j : Int) < 8 := by omega
        have hts2 : (t.size : Int) ≤ 9223372036854775807 := by omega
        obtain ⟨q, hq⟩ : ∃ q : Nat, q = min t.size 60 := ⟨_, rfl⟩
        have HQ : Hid ((if (60 : Int) < (t.size : Int) then (60 : Int) else (t.size : Int)) = (q : Int)) := Lib.hid (by rw [hq]; split <;> omega)
        have HCUT : Hid (t.extract 0 q = cutS t) := Lib.hid (by rw [hq]; rfl)
        have hqt : q ≤ t.size := by omega
        have LT : Hid (g < w.heap.size) := Lib.hid (World.block_lt_of_cell? w _ (str_cell hr ht))
        clear ht hr ct hch hp hq
        have hwj : IntKind.i64.wrap ((j : Int) + 1) = (j : Int) + 1 := IntWalk.i64_in _ (by omega)
        go_wp2_with fail
        refine wp_region_held_drew (S := Kp (fun k => w.heap.size ≤ k) wr) (by kernel_rfl) (Kp.drew _ _) (fun hHeld => ?_)
        refine wpAnyH_take (i := 0) (v := ?v1) rfl (by kernel_rfl) (by kernel_rfl) (by kernel_rfl) (fun _ _ _ h => h) (Or.inl ⟨by rfl, ?y1⟩) (by assumption) ?r1
        case y1 =>
          intro wq hSw
          clear hSw
          go_simp
          with_reducible rfl
        simp only [Act.put, List.getElem_toArray, List.getElem_cons_succ, List.getElem_cons_zero, List.setIfInBounds_toArray, List.set_cons_zero, List.set_cons_succ]
        refine wpAnyH_take (i := 1) (v := ?v2) rfl (by kernel_rfl) (by kernel_rfl) (by kernel_rfl) (fun _ _ _ h => h) (Or.inl ⟨by rfl, ?y2⟩) (by assumption) ?r2
        case y2 =>
          intro wq hSw
          clear hSw
          go_simp
          with_reducible rfl
        simp only [Act.put, List.getElem_toArray, List.getElem_cons_succ, List.getElem_cons_zero, List.setIfInBounds_toArray, List.set_cons_zero, List.set_cons_succ]
        refine wpAnyH_take (i := 2) (v := ?v3) rfl (by kernel_rfl) (by kernel_rfl) (by kernel_rfl) (fun _ _ _ h => h) (Or.inl ⟨by rfl, ?y3⟩) (by assumption) ?r3
        case y3 =>
          intro wq hSw
          clear hSw
          go_simp
          with_reducible rfl
        simp only [Act.put, List.getElem_toArray, List.getElem_cons_succ, List.getElem_cons_zero, List.setIfInBounds_toArray, List.set_cons_zero, List.set_cons_succ]
        refine wpAnyH_take (i := 3) (v := ?v4) rfl (by kernel_rfl) (by kernel_rfl) (by kernel_rfl) (fun _ _ _ h => h) (Or.inl ⟨by rfl, ?y4⟩) (by assumption) ?r4
        case y4 =>
          intro wq hSw
          clear hSw
          go_simp
          with_reducible rfl
        simp only [Act.put, List.getElem_toArray, List.getElem_cons_succ, List.getElem_cons_zero, List.setIfInBounds_toArray, List.set_cons_zero, List.set_cons_succ]
        refine wpAnyH_take (i := 4) (v := _) rfl (by kernel_rfl) (by kernel_rfl) (by kernel_rfl) (fun _ _ _ h => h) (yields_build (by rfl) 44 #[(0, .tmp 18)] rfl #[(0, .int .u8 (IntKind.u8.wrap ((j : Int) + 1)))] (by simp only [List.map_toArray, List.map_cons, List.map_nil]; rfl) _ (by rw [WR.out]; exact built44 ch)) (by assumption) ?_
        simp only [Act.put, List.getElem_toArray, List.getElem_cons_succ, List.getElem_cons_zero, List.setIfInBounds_toArray, List.set_cons_zero, List.set_cons_succ]
        refine wpAnyH_take (i := 5) (v := ?v5) rfl (by kernel_rfl) (by kernel_rfl) (by kernel_rfl) (fun _ _ _ h => h) (Or.inl ⟨by rfl, ?y5⟩) (by assumption) ?r5
        case y5 =>
          intro wq hSw
          clear hSw
          go_simp
          with_reducible rfl
        simp only [Act.put, List.getElem_toArray, List.getElem_cons_succ, List.getElem_cons_zero, List.setIfInBounds_toArray, List.set_cons_zero, List.set_cons_succ]
        refine wpAnyH_take (i := 6) (v := ?v6) rfl (by kernel_rfl) (by kernel_rfl) (by kernel_rfl) (fun _ _ _ h => h) (Or.inl ⟨by rfl, ?y6⟩) (by assumption) ?r6
        case y6 =>
          intro wq hSw
          clear hSw
          go_simp
          with_reducible rfl
        simp only [Act.put, List.getElem_toArray, List.getElem_cons_succ, List.getElem_cons_zero, List.setIfInBounds_toArray, List.set_cons_zero, List.set_cons_succ]
        refine wpAnyH_take (i := 7) (v := ?v7) rfl (by kernel_rfl) (by kernel_rfl) (by kernel_rfl) (fun _ _ _ h => h) (Or.inl ⟨by rfl, ?y7⟩) (by assumption) ?r7
        case y7 =>
          intro wq hSw
          clear hSw
          go_simp
          with_reducible rfl
        simp only [Act.put, List.getElem_toArray, List.getElem_cons_succ, List.getElem_cons_zero, List.setIfInBounds_toArray, List.set_cons_zero, List.set_cons_succ]
        refine wpAnyH_take (i := 8) (v := ?v8) rfl (by kernel_rfl) (by kernel_rfl) (by kernel_rfl) (fun _ _ _ h => h) (Or.inl ⟨by rfl, ?y8⟩) (by assumption) ?r8
        case y8 =>
          intro wq hSw
          have q0 := hSw.cell CT.out (by have := LT.out; show ¬ w.heap.size ≤ g; omega)
          clear hSw
          go_simp
          with_reducible rfl
        simp only [Act.put, List.getElem_toArray, List.getElem_cons_succ, List.getElem_cons_zero, List.setIfInBounds_toArray, List.set_cons_zero, List.set_cons_succ]
        refine wpAnyH_take (i := 9) (v := ?v9) rfl (by kernel_rfl) (by kernel_rfl) (by kernel_rfl) (fun _ _ _ h => h) (Or.inl ⟨by rfl, ?y9⟩) (by assumption) ?r9
        case y9 =>
          intro wq hSw
          clear hSw
          go_simp
          with_reducible rfl
        simp only [Act.put, List.getElem_toArray, List.getElem_cons_succ, List.getElem_cons_zero, List.setIfInBounds_toArray, List.set_cons_zero, List.set_cons_succ]
        refine wpAnyH_take (i := 10) (v := ?v10) rfl (by kernel_rfl) (by kernel_rfl) (by kernel_rfl) (fun _ _ _ h => h) (Or.inl ⟨by rfl, ?y10⟩) (by assumption) ?r10
        case y10 =>
          intro wq hSw
          clear hSw
          go_simp
          with_reducible rfl
        simp only [Act.put, List.getElem_toArray, List.getElem_cons_succ, List.getElem_cons_zero, List.setIfInBounds_toArray, List.set_cons_zero, List.set_cons_succ]
        refine wpAnyH_take (i := 11) (v := ?v11) rfl (by kernel_rfl) (by kernel_rfl) (by kernel_rfl) (fun _ _ _ h => h) (Or.inl ⟨by rfl, ?y11⟩) (by assumption) ?r11
        case y11 =>
          intro wq hSw
          clear hSw
          go_simp
          with_reducible rfl
        simp only [Act.put, List.getElem_toArray, List.getElem_cons_succ, List.getElem_cons_zero, List.setIfInBounds_toArray, List.set_cons_zero, List.set_cons_succ]
        refine wpAnyH_take (i := 12) (v := ?v12) rfl (by kernel_rfl) (by kernel_rfl) (by kernel_rfl) (fun _ _ _ h => h) (Or.inl ⟨by rfl, ?y12⟩) (by assumption) ?r12
        case y12 =>
          intro wq hSw
          have q0 := hSw.cell CT.out (by have := LT.out; show ¬ w.heap.size ≤ g; omega)
          clear hSw
          go_simp
          with_reducible rfl
        simp only [Act.put, List.getElem_toArray, List.getElem_cons_succ, List.getElem_cons_zero, List.setIfInBounds_toArray, List.set_cons_zero, List.set_cons_succ]
        refine wpAnyH_take (i := 13) (v := ?v13) rfl (by kernel_rfl) (by kernel_rfl) (by kernel_rfl) (fun _ _ _ h => h) (Or.inl ⟨by rfl, ?y13⟩) (by assumption) ?r13
        case y13 =>
          intro wq hSw
          clear hSw
          go_simp
          with_reducible rfl
        simp only [Act.put, List.getElem_toArray, List.getElem_cons_succ, List.getElem_cons_zero, List.setIfInBounds_toArray, List.set_cons_zero, List.set_cons_succ]
        refine wpAnyH_take (i := 14) (v := ?v14) rfl (by kernel_rfl) (by kernel_rfl) (by kernel_rfl) (fun _ _ _ h => h) (Or.inl ⟨by rfl, ?y14⟩) (by assumption) ?r14
        case y14 =>
          intro wq hSw
          clear hSw
          go_simp
          rw [HQ.out]
        simp only [Act.put, List.getElem_toArray, List.getElem_cons_succ, List.getElem_cons_zero, List.setIfInBounds_toArray, List.set_cons_zero, List.set_cons_succ]
        refine wpAnyH_take (i := 15) (v := ?v15) rfl (by kernel_rfl) (by kernel_rfl) (by kernel_rfl) (fun _ _ _ h => h) (Or.inl ⟨by rfl, ?y15⟩) (by assumption) ?r15
        case y15 =>
          intro wq hSw
          clear hSw
          go_simp
          rw [HCUT.out]
        simp only [Act.put, List.getElem_toArray, List.getElem_cons_succ, List.getElem_cons_zero, List.setIfInBounds_toArray, List.set_cons_zero, List.set_cons_succ]
        refine wpAnyH_take (i := 16) (v := _) rfl (by kernel_rfl) (by kernel_rfl) (by kernel_rfl) (fun _ _ _ h => h) (yields_build (by rfl) 54 #[(0, .tmp 19), (1, .tmp 30)] rfl #[(0, .agg (byteCells (hashK ch)).toArray), (1, .string (cutS t))] (by simp only [List.map_toArray, List.map_cons, List.map_nil]; rfl) _ (built54 ch (cutS t))) (by assumption) ?_
        simp only [Act.put, List.getElem_toArray, List.getElem_cons_succ, List.getElem_cons_zero, List.setIfInBounds_toArray, List.set_cons_zero, List.set_cons_succ]
        refine wpAnyH_ready (rs := [17]) (by kernel_rfl) (by simp) ?_
        refine AllReadyH.cons rfl (fun K hK => ?_) AllReadyH.nil
        have HH1 := Lib.hid hHeld
        rw [if_pos (by rfl)]
        refine opwp_lit37 (.tmp 31) rfl (pkCells ⟨hashK ch, cutS t⟩) rfl (pkCells_len _ rfl) ?_
        intro g1 w1 hg1 eg1 sz1 k1
        have HG1 := Lib.hid hg1
        have OW1 := Lib.hid (k1.own ((Kp.drew (fun _ => False) wr).own HO.out fun _ _ h => h) fun _ _ h => h)
        have K1 := Lib.hid (HH1.out.trans k1.zero fun q hq => .inl hq)
        clear hg1 k1 eg1 sz1
        refine hK.out _ _ (K1.out) (fun hHeld => ?_)
        clear hK K
        refine wpAnyH_ready (rs := [18]) (by kernel_rfl) (by simp) ?_
        refine AllReadyH.cons rfl (fun K hK => ?_) AllReadyH.nil
        rw [if_pos (by rfl)]
        refine wp_append_src _ (.tmp 15) (.tmp 32) 37 rfl w.heap.size 54 i0 z54 33 48 Try.underlying37 hi hz0 hz1 hz2 ZC.out (by decide) (.slice s j d) j (pks (pkN L j)) rfl OW1.out (some ⟨g1, 0, none⟩) 1 1 (pkCells ⟨hashK ch, cutS t⟩) rfl ⟨pkCells_len _ rfl, fun _ => ⟨g1, 0, rfl, range_of_heap HG1.out⟩⟩ (pk_one _) (by unfold maxLen; omega) (by omega) (by have := HK.out.size; have := K1.out.size; omega) ?_
        intro v6 w6 own6 grow6 _loc6
        obtain ⟨s6, d6, hv6, _, _, _, _⟩ := Src.of_own own6
        subst hv6
        have OWN6 := Lib.hid own6
        have K6 := Lib.hid (K1.out.trans (Kp.grown (F := fun q => (Value.slice s j d).ownBlock = some q) grow6 fun q hq => hq) fun q hq => .inl (ownsRow_block HO.out hq).1)
        clear own6 grow6 _loc6
        refine hK.out _ _ (K6.out) (fun hHeld => ?_)
        clear hK K
        refine wpAnyH_take (i := 19) (v := ?v16) rfl (by kernel_rfl) (by kernel_rfl) (by kernel_rfl) (fun _ _ _ h => h) (Or.inl ⟨by rfl, ?y16⟩) (by assumption) ?r16
        case y16 =>
          intro wq hSw
          clear hSw
          go_simp
          with_reducible rfl
        simp only [Act.put, List.getElem_toArray, List.getElem_cons_succ, List.getElem_cons_zero, List.setIfInBounds_toArray, List.set_cons_zero, List.set_cons_succ]
        refine wpAnyH_done (by kernel_rfl) ?_ _
        go_wp2_with fail
        go_roundw
        case rel => exact ⟨j + 1, s6, d6, by simp, by rw [← HNN.out]; omega, by omega, rfl, by rw [HPK.out]; exact OWN6.out, HK.out.trans K6.out fun q hq => .inr hq⟩
        case measure => simp [Go.RowKit.intOf]; omega
      · have h88 : j = 8 := by omega
        subst h88
        clear h8
        go_wp2_with fail
        go_ret
        have hl8 : pkL L = pkN L 8 := by unfold pkL; rw [Nat.min_eq_right (by rw [← HNN.out]; omega)]
        refine ⟨s, d, by rw [hl8, pkN_len]; rfl, by rw [hl8, pkN_len]; exact HO.out, HK.out⟩
    · have hjn : j = n := by omega
      subst hjn
      go_wp2_with fail
      go_ret
      have hl8 : pkL L = pkN L j := by unfold pkL; rw [← HNN.out, Nat.min_eq_left (by omega)]
      refine ⟨s, d, by rw [hl8, pkN_len]; rfl, by rw [hl8, pkN_len]; exact HO.out, HK.out⟩

end Go.Proofs.Ytlkamfmepjddkaa
