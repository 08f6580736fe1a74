/- Walk: own's packets. -/
import Derived.Test.YtlkamfmepjddkaaN8
import Derived.Deep.DeepCutAuto
import Derived.Great.BuildSlice
set_option linter.unusedSimpArgs false
set_option linter.unusedVariables false
namespace Go.Proofs.Ytlkamfmepjddkaa
open Go.RowKit Go.Lib Go.Maps

theorem wpList_lit37 {w : World} {ops : Array Oper} {rest : List Oper} {o : Oper} {a : Act} {Q : Exit → Act → World → Prop} (hgd : o.guard = none) (x : Operand) (ho : o.op = .buildSlice 37 1 #[(0, x)]) (cs : List Value) (hx : a.eval x = .agg cs.toArray) (hl : cs.length = 33)
    (h : ∀ g w', w'.heap[g]? = some (.cells cs.toArray 54 (0, 0)) → g = w.heap.size → w'.heap.size = g + 1 → Kp (fun _ => False) w w' → wpList Try.prog ops Q rest (a.put o.dst (.slice (some ⟨g, 0, none⟩) 1 1)) w') : wpList Try.prog ops Q (o :: rest) a w := by
  obtain ⟨i0, hi, hz0, hz1, hz2⟩ := info_parts info54
  have hzs : (Value.agg (List.replicate 32 (Value.int .u8 0) ++ [Value.string emptyS]).toArray).cells.size = 33 := by kernel_rfl
  have hf := Great.fill_whole (s := 33) (by decide) [Value.agg cs.toArray] ((Array.range (1 * i0.size)).map ((Value.agg (List.replicate 32 (Value.int .u8 0) ++ [Value.string emptyS]).toArray).cells[· % (Value.agg (List.replicate 32 (Value.int .u8 0) ++ [Value.string emptyS]).toArray).cells.size]!)) (by intro v hv; simp at hv; subst hv; simpa [Value.cells] using hl) (by simp [hz1])
  refine wpList_buildSlice hgd 37 54 1 #[(0, x)] ho cs.toArray i0 _ Try.underlying37 hi hz0 (by rw [hz1]; omega) (by rw [hz1]; omega) ?_ (h _ _ (heap_alloc_new w _) rfl (by simp) (Kp.alloc _ _ _))
  rw [hz1]
  rw [hz1] at hf
  simpa [hx, Value.cells] using hf

def OwRel (w : World) (P : List Pk) (i acc : Value) (wr : World) : Prop :=
  ∃ (j : Nat) (s : Option Addr) (d : Nat), i = .int .i64 (j : Int) ∧ j ≤ P.length ∧ acc = .slice s j d ∧ wr.ownsRow w.heap.size 54 33 (.slice s j d) j (pks (P.take j)) ∧ Kp (fun _ => False) w wr

theorem pks_take (P : List Pk) (j : Nat) (p : Pk) (h : P[j]? = some p) : pks (P.take (j + 1)) = pks (P.take j) ++ pkCells p := by
  obtain ⟨hlt, he⟩ := List.getElem?_eq_some_iff.1 h
  rw [List.take_succ_eq_append_getElem hlt, he]
  simp [pks]

set_option maxRecDepth 100000 in
set_option maxHeartbeats 4000000 in
theorem own54_any (w : World) (P : List Pk) (sp : Option Addr) (c : Nat) (hs : Src w 33 sp P.length (pks P)) (hp : ∀ p ∈ P, p.h.length = 32) (hn : P.length ≤ 1000) :
    Calls Try.prog 26 #[.slice sp P.length c, .func (.func 25) #[] #[]] w fun e w' => ∃ s d, e = .returned (.slice s P.length d) ∧ w'.ownsRow w.heap.size 54 33 (.slice s P.length d) P.length (pks P) ∧ Kp (fun _ => False) w w' := by
  obtain ⟨n, hnn⟩ : ∃ n, n = P.length := ⟨_, rfl⟩
  rw [← hnn] at hs hn ⊢
  have HNN := Lib.hid hnn
  have HS := Lib.hid hs
  have HP := Lib.hid hp
  obtain ⟨i0, hi, hz0, hz1, hz2⟩ := info_parts info54
  obtain ⟨z54, hz54⟩ : ∃ z, z = (Value.agg (List.replicate 32 (Value.int .u8 0) ++ [Value.string emptyS]).toArray) := ⟨_, rfl⟩
  rw [← hz54] at hz0
  have ZC : Hid (z54.cells.size = 33) := Lib.hid (by rw [hz54]; kernel_rfl)
  clear hnn hs hp hz54
  go_enter Try.func26, Try.ntmps26
  go_wp2_with fail
  go_loopw [10, 5] (fun i acc wr => OwRel w P i acc wr) (fun i _ _ => n - (Go.RowKit.intOf i).toNat)
  case atStart => exact ⟨0, none, 0, rfl, Nat.zero_le _, rfl, ⟨rfl, .inl ⟨rfl, rfl⟩⟩, Kp.refl _ _⟩
  case round =>
    obtain ⟨j, s, d, rfl, hj, rfl, ho, hk⟩ := hrel
    rw [← HNN.out] at hj
    have HO := Lib.hid ho
    have HK := Lib.hid hk
    clear ho hk
    by_cases hlt : j < n
    · obtain ⟨p, hpj⟩ : ∃ p, P[j]? = some p := ⟨_, List.getElem?_eq_getElem (by rw [← HNN.out]; exact hlt)⟩
      have hp32 := HP.out p (List.mem_of_getElem? hpj)
      obtain ⟨g, o, rfl, hr⟩ := HS.out.2 (by omega)
      have rr := rangeAt_flat pkCells 33 P hr j p (fun q hq => pkCells_len q (HP.out q hq)) hpj
      obtain ⟨cs, hcs⟩ : ∃ cs, cs = pkCells p := ⟨_, rfl⟩
      have hl : cs.length = 33 := by rw [hcs]; exact pkCells_len p hp32
      have h1 := pk_one p
      rw [← hcs] at h1 rr
      have RR := Lib.hid (rangeAt_kp rr HK.out (fun h => h))
      have H1 := Lib.hid h1
      have HI := Lib.hid (info54s.trans (by rw [hl]) : (Try.prog.info? 54).map (·.size) = some cs.length)
      have HL := Lib.hid hl
      have HCS := Lib.hid hcs
      have HPJ := Lib.hid hpj
      have HP32 := Lib.hid hp32
      have j0 : (0 : Int) ≤ (j : Int) := by omega
      have j1 : (j : Int) < (n : Int) := by omega
      clear hr rr hl h1 hcs hpj hp32
      go_wp2_with (first
        | (refine wpList_load_mid rfl 54 (.tmp 12) rfl g (o + j * 33) rfl cs _ RR.out Try.underlying54 rfl HI.out ?_)
        | (refine wpList_alloc54 rfl rfl ?_; intro r w2 z hz hr er sr kr; have ER := Lib.hid er; have SR := Lib.hid sr; clear er sr; have HZ := Lib.hid hz; have HR := Lib.hid hr; have KR := Lib.hid kr; clear hz hr kr)
        | (refine wpList_store54 rfl (.tmp 7) (.tmp 13) rfl r cs rfl rfl z HR.out HZ.out HL.out H1.out ?_; intro w3 h3 k3; have H3 := Lib.hid h3; have K3 := Lib.hid k3; clear h3 k3)
        | (refine wpList_load_mid rfl 54 (.tmp 7) rfl r 0 rfl cs _ (range_of_heap H3.out) Try.underlying54 rfl HI.out ?_))
      have KT3 := Lib.hid (KR.out.trans K3.out fun q hq => .inr (by have := ER.out; omega))
      have hself := pkself_any p HP32.out w3
      rw [← HCS.out] at hself
      refine hself.mono ?_
      rintro e w4 ⟨rfl, k4⟩
      dsimp only
      have KT4 := Lib.hid (KT3.out.trans k4 fun _ (h : False) => h.elim)
      clear hself k4
      go_wp2_with (first
        | (refine wpList_lit37 rfl (.tmp 17) rfl cs rfl HL.out ?_; intro g5 w5 h5 eg5 sz5 k5; have KT5 := Lib.hid (KT4.out.trans k5 fun _ (h : False) => h.elim); have H5 := Lib.hid h5; clear h5 eg5 sz5 k5)
        | (refine wpList_append_src _ rfl (.tmp 14) (.tmp 18) 37 rfl w.heap.size 54 i0 z54 33 48 Try.underlying37 hi hz0 hz1 hz2 ZC.out (by decide) (.slice s j d) j (pks (P.take j)) rfl (KT5.out.own HO.out fun _ _ h => h) (some ⟨g5, 0, none⟩) 1 1 cs rfl ⟨by have := HL.out; omega, fun _ => ⟨g5, 0, rfl, range_of_heap H5.out⟩⟩ H1.out (by unfold maxLen; omega) (by omega) (by have := HK.out.size; have := KT5.out.size; omega) ?_; intro v6 w6 own6 grow6 loc6; obtain ⟨s6, d6, hv6, _, _, _, _⟩ := Src.of_own own6; subst hv6; have OWN6 := Lib.hid own6; have KT6 := Lib.hid ((KT5.out.zero (F := fun q => (Value.slice s j d).ownBlock = some q)).trans (Kp.grown (F := fun q => (Value.slice s j d).ownBlock = some q) grow6 fun q hq => hq) fun q hq => .inl hq); clear own6 grow6 loc6))
      go_roundw
      case rel =>
        refine ⟨j + 1, s6, d6, by simp, by rw [← HNN.out]; omega, rfl, ?_, HK.out.trans KT6.out fun q hq => .inr (ownsRow_block HO.out hq).1⟩
        rw [pks_take P j p HPJ.out, ← HCS.out]
        exact OWN6.out
      case measure => simp [Go.RowKit.intOf]; omega
    · have hjn : j = n := by omega
      subst hjn
      go_wp2_with fail
      go_ret
      have ht : P.take j = P := List.take_of_length_le (by rw [← HNN.out]; omega)
      have hO := HO.out
      rw [ht] at hO
      exact ⟨s, d, rfl, hO, HK.out⟩

end Go.Proofs.Ytlkamfmepjddkaa
