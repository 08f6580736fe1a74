/- Walks of the model: the wanted bytes, a circle, bytes of which one is changed. -/
import Derived.Test.YtlkamfmepjddkaaW4
import Derived.Stop.BytesEq
set_option linter.unusedSimpArgs false
set_option linter.unusedVariables false
namespace Go.Proofs.Ytlkamfmepjddkaa
open Go.RowKit Go.Lib Go.Maps

theorem run_eq44 (H G : List UInt8) (hH : H.length = 32) (hG : G.length = 32) (u : World) : (Op.equalIn 10000 44 (.agg (byteCells H).toArray) (.agg (byteCells G).toArray)).run Try.prog u = .ok (H == G) u :=
  run_equalIn_bytes u 9998 44 5 32 Try.underlying44 Try.underlying5 (by intro w; kernel_rfl) H G hH hG
theorem info44 : (Try.prog.info? 44).map (·.size) = some 32 := by kernel_rfl

theorem rwaiting_any {w : World} {B : Nat} {V : RV} {s : NS} (h : RefP w B V s) : Calls Try.prog 23 #[.pointer (some ⟨V.b, 0, none⟩)] w fun e w' => e = .returned (.int .i64 (s.replies.length : Int)) ∧ w = w' := by
  obtain ⟨sp, cap, hv, _, _, _, _⟩ := Src.of_own h.rep
  obtain ⟨c0, c1, c2, c3, c4, c5, cf⟩ := obj_cells h.obj
  rw [hv] at c5
  clear c0 c1 c2 c3 c4 cf hv h
  go_enter Try.func23, Try.ntmps23
  go_wp2_with fail
  go_ret
  exact ⟨rfl, rfl⟩
theorem waiting_any {w : World} {B : Nat} {V : NV} {s : NS} (h : NetP w B V s) : Calls Try.prog 18 #[.pointer (some ⟨V.b, 0, none⟩)] w fun e w' => e = .returned (.int .i64 (s.replies.length : Int)) ∧ w = w' := by
  obtain ⟨sp, cap, hv, _, _, _, _⟩ := Src.of_own h.rep
  obtain ⟨c0, c1, c2, c3, c4, c5, cf⟩ := obj_cells h.obj
  rw [hv] at c5
  clear c0 c1 c2 c3 c4 cf hv h
  go_enter Try.func18, Try.ntmps18
  go_wp2_with fail
  go_ret
  exact ⟨rfl, rfl⟩
theorem waiting_nil (w : World) : Calls Try.prog 18 #[.pointer none] w fun e w' => e = .returned (.int .i64 0) ∧ w = w' := by
  go_enter Try.func18, Try.ntmps18
  go_wp2_with fail
  go_ret
  exact ⟨rfl, rfl⟩

set_option maxHeartbeats 1000000 in
theorem circle_any (sp : Option Addr) (c : Nat) (l : List Pk) (k : Int) (w : World) (hs : Src w 33 sp l.length (pks l)) (hl : ∀ p ∈ l, p.h.length = 32 ∧ p.b.size ≤ 100) (hn : l.length ≤ 1000) :
    Calls Try.prog 49 #[.slice sp l.length c, .int .i64 k] w fun e w' => e = .returned (.string (circleS l k)) ∧ w = w' := by
  obtain ⟨n, hnn⟩ : ∃ n, n = l.length := ⟨_, rfl⟩
  rw [← hnn] at hs hn ⊢
  by_cases h0 : n = 0
  · subst h0
    have hl0 : l = [] := List.eq_nil_of_length_eq_zero hnn.symm
    subst hl0
    clear hnn hs hl hn
    go_enter Try.func49, Try.ntmps49
    go_wp2_with fail
    go_ret
    exact ⟨rfl, rfl⟩
  · obtain ⟨g, o, rfl, hr⟩ := hs.2 (by omega)
    obtain ⟨i, hi⟩ : ∃ i : Nat, k % (n : Int) = (i : Int) := ⟨(k % (n : Int)).toNat, by have := Int.emod_nonneg k (show (n : Int) ≠ 0 by omega); omega⟩
    have hin : i < n := by have := Int.emod_lt_of_pos k (show (0 : Int) < (n : Int) by omega); omega
    have hp : l[i]? = some (l[i]'(by omega)) := List.getElem?_eq_getElem (by omega)
    obtain ⟨p, hpp⟩ : ∃ p, p = l[i]'(by omega) := ⟨_, rfl⟩
    rw [← hpp] at hp
    have hc := pk_text hr (fun x hx => (hl x hx).1) hp
    have HC : Hid (circleS l k = p.b) := Lib.hid (circleS_at (by rw [← hnn]; exact hi) hp)
    have hi0 : (0 : Int) ≤ (i : Int) := by omega
    have hi1 : (i : Int) < (n : Int) := by omega
    have h1 : ((n : Int) == 0) = false := by rw [beq_eq_false_iff_ne]; omega
    have HI := Lib.hid hi
    have HN := Lib.hid hnn
    clear hs hr hi hp hpp hnn hl
    go_enter Try.func49, Try.ntmps49
    go_wp2_with fail
    refine (mod_kp k n w i HI.out (by omega) (by omega)).mono ?_
    rintro e w' ⟨rfl, rfl⟩
    go_wp2_with fail
    go_ret
    exact ⟨by rw [HC.out]; rfl, rfl⟩

theorem wpAnyH_to {P : Program} {md : Region.Mode} {ops : Array Oper} {Q : Exit → Act → World → Prop} {S S' : World → Prop} (h : ∀ w, S' w → S w) : ∀ (fuel : Nat) (listed : Array Bool) (a : Act) (w : World), wpAnyH P md ops Q S' fuel listed a w → wpAnyH P md ops Q S fuel listed a w
  | 0, _, _, _, h0 => h0
  | fuel + 1, _, _, _, h0 => ⟨h0.1, fun i hi => wpOp_mono (fun a' w' h' => ⟨h _ h'.1, wpAnyH_to h fuel _ a' w' h'.2⟩) (h0.2 i hi)⟩

theorem conv1 (u : World) (g : Nat) (x : UInt8) (h : u.heap[g]? = some (.cells #[.int .u8 (bits BinOp.xor IntKind.u8 (x.toNat : Int) 1)] 5 (0, 0))) : (convert 59 9 (.slice (some ⟨g, 0, none⟩) 1 1)).run Try.prog u = .ok (.string ⟨#[x ^^^ 1]⟩) u := by
  rw [bits_xor1] at h
  have o : OwnM u 0 (.slice (some ⟨g, 0, none⟩) 1 1) [x ^^^ 1] := ⟨g, 1, _, (0, 0), rfl, Nat.zero_le _, h, .inl rfl, Nat.le_refl _, by decide, rfl, rfl⟩
  exact o.str _ rfl
theorem forged_split (s : ByteArray) (n : Int) (i : Nat) (h : n % (s.size : Int) = (i : Int)) (hi : i < s.size) :
    s.extract 0 i ++ ⟨#[s[i] ^^^ 1]⟩ ++ s.extract (i + 1) s.size = forgedS s n := by
  have hx : s.data.toList.getD i 0 = s[i] := by
    have : i < s.data.toList.length := by rw [← size_list]; exact hi
    have h2 : i < s.data.size := hi
    simp only [List.getD, Array.getElem?_toList]
    rw [Array.getElem?_eq_getElem h2]
    rfl
  rw [← hx]
  apply ba_ext
  have hl := size_list s
  unfold forgedS xorAt
  rw [h, Int.toNat_natCast, ByteArray.data_append, Array.toList_append, ByteArray.data_append, Array.toList_append, ba_extract, ba_extract]
  simp only [List.drop_zero, Nat.sub_zero, List.toList_toArray]
  rw [List.take_of_length_le (l := List.drop (i + 1) s.data.toList) (by rw [List.length_drop]; omega), List.set_eq_take_append_cons_drop, if_pos (by omega), List.append_assoc]
  rfl

set_option maxRecDepth 100000 in
set_option maxHeartbeats 4000000 in
theorem forged_any (s : ByteArray) (n : Int) (w : World) (hs : s.size ≤ 1000) : Calls Try.prog 50 #[.string s, .int .i64 n] w fun e w' => e = .returned (.string (forgedS s n)) ∧ Kp (fun _ => False) w w' := by
  by_cases h0 : s.size = 0
  · have hl0 : s.data.toList = [] := List.eq_nil_of_length_eq_zero (by rw [← size_list]; exact h0)
    have hl : s.toList.isEmpty = true := by rw [ByteArray.toList_eq, hl0]; rfl
    have HF : Hid (forgedS s n = ⟨#[]⟩) := Lib.hid (by unfold forgedS; rw [hl0]; rfl)
    clear hl0 h0 hs
    go_enter Try.func50, Try.ntmps50
    go_wp2_with fail
    go_ret
    exact ⟨by rw [HF.out]; rfl, Kp.refl _ _⟩
  · obtain ⟨N, hN⟩ : ∃ N, s.size = N := ⟨_, rfl⟩
    have hl : s.toList.isEmpty = false := by
      rw [ByteArray.toList_eq, List.isEmpty_eq_false_iff]
      intro e
      have := size_list s
      rw [e] at this
      exact h0 this
    obtain ⟨i, hi⟩ : ∃ i : Nat, n % (s.size : Int) = (i : Int) := ⟨(n % (s.size : Int)).toNat, by have := Int.emod_nonneg n (show (s.size : Int) ≠ 0 by omega); omega⟩
    have hin : i < s.size := by have := Int.emod_lt_of_pos n (show (0 : Int) < (s.size : Int) by omega); omega
    have HF := Lib.hid (forged_split s n i hi hin)
    have HI := Lib.hid hi
    have hi0 : (0 : Int) ≤ (i : Int) := by omega
    have hi1 : (i : Int) < (s.size : Int) := by omega
    have hi2 : (i : Int) ≤ (s.size : Int) := by omega
    have hs1 : (s.size : Int) ≤ 1000 := by omega
    have hiw : IntKind.i64.wrap ((i : Int) + 1) = (i : Int) + 1 := IntWalk.i64_in _ (by omega)
    have hit : ((i : Int) + 1).toNat = i + 1 := by omega
    have hi3 : (i : Int) + 1 ≤ (s.size : Int) := by omega
    have hi4 : (0 : Int) ≤ (i : Int) + 1 := by omega
    have hc1 : ¬ 9223372036854775807 < min i s.size + 1 := by omega
    have hc2 : ¬ 9223372036854775807 < min i s.size + 1 + (s.size - (i + 1)) := by omega
    clear hN hi h0
    go_enter Try.func50, Try.ntmps50
    go_wp2_with fail
    refine (mod_kp n s.size w i HI.out (by omega) (by omega)).mono ?_
    rintro e w' ⟨rfl, rfl⟩
    go_wp2_with fail
    refine wp_region_held_drew (S := Kp (fun _ => False) w) (by kernel_rfl) (Kp.drew _ _) (fun hHeld => ?_)
    refine wpAnyH_take (i := 0) (v := ?v1) rfl (by kernel_rfl) (by kernel_rfl) (by kernel_rfl) (fun _ _ _ h => h) (Or.inl ⟨by rfl, ?y1⟩) (by assumption) ?r1
    case y1 =>
      intro wq hSw
      clear hSw
      go_simp
      with_reducible rfl
    simp only [Act.put, List.getElem_toArray, List.getElem_cons_succ, List.getElem_cons_zero, List.setIfInBounds_toArray, List.set_cons_zero, List.set_cons_succ]
    refine wpAnyH_take (i := 1) (v := ?v2) rfl (by kernel_rfl) (by kernel_rfl) (by kernel_rfl) (fun _ _ _ h => h) (Or.inl ⟨by rfl, ?y2⟩) (by assumption) ?r2
    case y2 =>
      intro wq hSw
      clear hSw
      go_simp
      with_reducible rfl
    simp only [Act.put, List.getElem_toArray, List.getElem_cons_succ, List.getElem_cons_zero, List.setIfInBounds_toArray, List.set_cons_zero, List.set_cons_succ]
    refine wpAnyH_take (i := 2) (v := ?v3) rfl (by kernel_rfl) (by kernel_rfl) (by kernel_rfl) (fun _ _ _ h => h) (Or.inl ⟨by rfl, ?y3⟩) (by assumption) ?r3
    case y3 =>
      intro wq hSw
      clear hSw
      go_simp
      with_reducible rfl
    simp only [Act.put, List.getElem_toArray, List.getElem_cons_succ, List.getElem_cons_zero, List.setIfInBounds_toArray, List.set_cons_zero, List.set_cons_succ]
    refine wpAnyH_take (i := 3) (v := ?v4) rfl (by kernel_rfl) (by kernel_rfl) (by kernel_rfl) (fun _ _ _ h => h) (Or.inl ⟨by rfl, ?y4⟩) (by assumption) ?r4
    case y4 =>
      intro wq hSw
      clear hSw
      go_simp
      with_reducible rfl
    simp only [Act.put, List.getElem_toArray, List.getElem_cons_succ, List.getElem_cons_zero, List.setIfInBounds_toArray, List.set_cons_zero, List.set_cons_succ]
    refine wpAnyH_take (i := 4) (v := ?v5) rfl (by kernel_rfl) (by kernel_rfl) (by kernel_rfl) (fun _ _ _ h => h) (Or.inl ⟨by rfl, ?y5⟩) (by assumption) ?r5
    case y5 =>
      intro wq hSw
      clear hSw
      go_simp
      with_reducible rfl
    simp only [Act.put, List.getElem_toArray, List.getElem_cons_succ, List.getElem_cons_zero, List.setIfInBounds_toArray, List.set_cons_zero, List.set_cons_succ]
    refine wpAnyH_take (i := 5) (v := ?v6) rfl (by kernel_rfl) (by kernel_rfl) (by kernel_rfl) (fun _ _ _ h => h) (Or.inl ⟨by rfl, ?y6⟩) (by assumption) ?r6
    case y6 =>
      intro wq hSw
      clear hSw
      go_simp
      with_reducible rfl
    simp only [Act.put, List.getElem_toArray, List.getElem_cons_succ, List.getElem_cons_zero, List.setIfInBounds_toArray, List.set_cons_zero, List.set_cons_succ]
    refine wpAnyH_take (i := 6) (v := ?v7) rfl (by kernel_rfl) (by kernel_rfl) (by kernel_rfl) (fun _ _ _ h => h) (Or.inl ⟨by rfl, ?y7⟩) (by assumption) ?r7
    case y7 =>
      intro wq hSw
      clear hSw
      go_simp
      with_reducible rfl
    simp only [Act.put, List.getElem_toArray, List.getElem_cons_succ, List.getElem_cons_zero, List.setIfInBounds_toArray, List.set_cons_zero, List.set_cons_succ]
    refine wpAnyH_take (i := 10) (v := ?v8) rfl (by kernel_rfl) (by kernel_rfl) (by kernel_rfl) (fun _ _ _ h => h) (Or.inl ⟨by rfl, ?y8⟩) (by assumption) ?r8
    case y8 =>
      intro wq hSw
      clear hSw
      go_simp
      with_reducible rfl
    simp only [Act.put, List.getElem_toArray, List.getElem_cons_succ, List.getElem_cons_zero, List.setIfInBounds_toArray, List.set_cons_zero, List.set_cons_succ]
    refine wpAnyH_take (i := 11) (v := ?v9) rfl (by kernel_rfl) (by kernel_rfl) (by kernel_rfl) (fun _ _ _ h => h) (Or.inl ⟨by rfl, ?y9⟩) (by assumption) ?r9
    case y9 =>
      intro wq hSw
      clear hSw
      go_simp
      with_reducible rfl
    simp only [Act.put, List.getElem_toArray, List.getElem_cons_succ, List.getElem_cons_zero, List.setIfInBounds_toArray, List.set_cons_zero, List.set_cons_succ]
    refine wpAnyH_take (i := 12) (v := ?v10) rfl (by kernel_rfl) (by kernel_rfl) (by kernel_rfl) (fun _ _ _ h => h) (Or.inl ⟨by rfl, ?y10⟩) (by assumption) ?r10
    case y10 =>
      intro wq hSw
      clear hSw
      go_simp
      with_reducible rfl
    simp only [Act.put, List.getElem_toArray, List.getElem_cons_succ, List.getElem_cons_zero, List.setIfInBounds_toArray, List.set_cons_zero, List.set_cons_succ]
    refine wpAnyH_take (i := 13) (v := ?v11) rfl (by kernel_rfl) (by kernel_rfl) (by kernel_rfl) (fun _ _ _ h => h) (Or.inl ⟨by rfl, ?y11⟩) (by assumption) ?r11
    case y11 =>
      intro wq hSw
      clear hSw
      go_simp
      with_reducible rfl
    simp only [Act.put, List.getElem_toArray, List.getElem_cons_succ, List.getElem_cons_zero, List.setIfInBounds_toArray, List.set_cons_zero, List.set_cons_succ]
    refine wpAnyH_ready (rs := [7]) (by kernel_rfl) (by simp) ?_
    refine AllReadyH.cons rfl (fun K hK => ?_) AllReadyH.nil
    rw [if_pos (by rfl)]
    go_simp
    refine hK.out _ _ (hHeld.trans (Kp.alloc (fun _ => False) _ _) fun _ (h : False) => h.elim) (fun hHeld => ?_)
    clear hK K
    refine wpAnyH_to (S' := fun w' => Kp (fun _ => False) w w' ∧ w'.heap[w.heap.size]? = some (.cells #[.int .u8 (bits BinOp.xor IntKind.u8 (s[i].toNat : Int) 1)] 5 (0, 0))) (fun _ h => h.1) _ _ _ _ ?_
    replace hHeld := (⟨hHeld, heap_alloc_new w _⟩ : (fun w' => Kp (fun _ => False) w w' ∧ w'.heap[w.heap.size]? = some (.cells #[.int .u8 (bits BinOp.xor IntKind.u8 (s[i].toNat : Int) 1)] 5 (0, 0))) _)
    refine wpAnyH_take (i := 8) (v := ?v12) rfl (by kernel_rfl) (by kernel_rfl) (by kernel_rfl) (fun _ _ _ h => h) (Or.inl ⟨by rfl, ?y12⟩) (by assumption) ?r12
    case y12 =>
      intro wq hSw
      have hv := conv1 wq _ _ hSw.2
      clear hSw
      go_simp
      with_reducible rfl
    simp only [Act.put, List.getElem_toArray, List.getElem_cons_succ, List.getElem_cons_zero, List.setIfInBounds_toArray, List.set_cons_zero, List.set_cons_succ]
    refine wpAnyH_take (i := 9) (v := ?v13) rfl (by kernel_rfl) (by kernel_rfl) (by kernel_rfl) (fun _ _ _ h => h) (Or.inl ⟨by rfl, ?y13⟩) (by assumption) ?r13
    case y13 =>
      intro wq hSw
      clear hSw
      go_simp
      with_reducible rfl
    simp only [Act.put, List.getElem_toArray, List.getElem_cons_succ, List.getElem_cons_zero, List.setIfInBounds_toArray, List.set_cons_zero, List.set_cons_succ]
    refine wpAnyH_take (i := 14) (v := ?v14) rfl (by kernel_rfl) (by kernel_rfl) (by kernel_rfl) (fun _ _ _ h => h) (Or.inl ⟨by rfl, ?y14⟩) (by assumption) ?r14
    case y14 =>
      intro wq hSw
      clear hSw
      go_simp
      with_reducible rfl
    simp only [Act.put, List.getElem_toArray, List.getElem_cons_succ, List.getElem_cons_zero, List.setIfInBounds_toArray, List.set_cons_zero, List.set_cons_succ]
    refine wpAnyH_take (i := 15) (v := ?v15) rfl (by kernel_rfl) (by kernel_rfl) (by kernel_rfl) (fun _ _ _ h => h) (Or.inl ⟨by rfl, ?y15⟩) (by assumption) ?r15
    case y15 =>
      intro wq hSw
      clear hSw
      go_simp
      with_reducible rfl
    simp only [Act.put, List.getElem_toArray, List.getElem_cons_succ, List.getElem_cons_zero, List.setIfInBounds_toArray, List.set_cons_zero, List.set_cons_succ]
    refine wpAnyH_done (by kernel_rfl) ?_ _
    go_wp2_with fail
    have hf := hHeld.1
    go_ret
    refine ⟨?_, hf⟩
    rw [← HF.out]
    rfl

theorem wanted_skip {l : List Pk} {h : List UInt8} {k : Nat} {p : Pk} (hp : l[k]? = some p) (hne : p.h ≠ h) : wantedS (l.drop k) h = wantedS (l.drop (k + 1)) h := by
  obtain ⟨hlt, e⟩ := List.getElem?_eq_some_iff.1 hp
  rw [List.drop_eq_getElem_cons hlt, e, wantedS, if_neg hne]
theorem wanted_hit {l : List Pk} {h : List UInt8} {k : Nat} {p : Pk} (hp : l[k]? = some p) (he : p.h = h) : wantedS (l.drop k) h = p.b := by
  obtain ⟨hlt, e⟩ := List.getElem?_eq_some_iff.1 hp
  rw [List.drop_eq_getElem_cons hlt, e, wantedS, if_pos he]

theorem pk_hash {w : World} {g o i : Nat} {l : List Pk} {p : Pk} (hr : w.rangeAt g o (pks l)) (hl : ∀ x ∈ l, x.h.length = 32) (hp : l[i]? = some p) : w.rangeAt g (o + i * 33) (byteCells p.h) := by
  have := rangeAt_flat pkCells 33 l hr i p (fun x hx => pkCells_len x (hl x hx)) hp
  intro j v hv
  exact this j v (by rw [pkCells, List.getElem?_append_left (List.getElem?_eq_some_iff.1 hv).1]; exact hv)

theorem rng_row {w : World} {A : Nat} {l : List UInt8} {t : TypeId} (h : w.heap[A]? = some (.cells (byteCells l).toArray t (0, 0))) : w.rangeAt A 0 (byteCells l) := by
  intro j v hv
  rw [Nat.zero_add, cell_of_row _ _ _ _ _ _ h]
  simpa using hv

def WRel (w0 : World) (l : List Pk) (h : List UInt8) (i : Value) (wr : World) : Prop :=
  ∃ k : Nat, i = .int .i64 (k : Nat) ∧ k ≤ l.length ∧ wantedS l h = wantedS (l.drop k) h ∧ Kp (fun _ => False) w0 wr

set_option maxRecDepth 100000 in
set_option maxHeartbeats 4000000 in
theorem wanted_any {w : World} {B : Nat} {V : RV} {st : NS} (hR : RefP w B V st) (h : List UInt8) (hh : h.length = 32) :
    Calls Try.prog 48 #[.pointer (some ⟨V.b, 0, none⟩), .agg (byteCells h).toArray] w fun e w' => e = .returned (.string (wantedS st.packets h)) ∧ Kp (fun _ => False) w w' := by
  obtain ⟨sp, cap, hv, _, _, hs, _⟩ := Src.of_own hR.pk
  obtain ⟨c0, c1, c2, c3, c4, c5, cf⟩ := obj_cells hR.obj
  rw [hv] at c0
  have hP := hR.ok.hp
  have hL := hR.ok.lp
  obtain ⟨l, hl⟩ : ∃ l, l = st.packets := ⟨_, rfl⟩
  rw [← hl] at hs hP hL c0 ⊢
  clear c1 c2 c3 c4 c5 cf hv hR hl
  obtain ⟨n, hn⟩ : ∃ n, n = l.length := ⟨_, rfl⟩
  rw [← hn] at hs c0 hL
  have HN := Lib.hid hn
  have HS := Lib.hid hs
  have HP := Lib.hid hP
  have HC0 := Lib.hid c0
  clear hn hs hP c0
  go_enter Try.func48, Try.ntmps48
  go_wp2_with fail
  obtain ⟨w0, hw0⟩ : ∃ w0, w0 = w.alloc (.cells (byteCells h).toArray 44) := ⟨_, rfl⟩
  have K0 : Hid (Kp (fun _ => False) w w0) := Lib.hid (by rw [hw0]; exact Kp.alloc _ _ _)
  have B0 : Hid (w0.rangeAt w.heap.size 0 (byteCells h)) := Lib.hid (by rw [hw0]; exact rng_row (heap_alloc_new w _))
  rw [← hw0]
  clear hw0
  go_loopw [5] (fun i wr => WRel w0 l h i wr) (fun i _ => n - (Go.RowKit.intOf i).toNat)
  case atStart => exact ⟨0, rfl, by omega, rfl, Kp.refl _ _⟩
  case round =>
    obtain ⟨k, rfl, hk, hwt, hkp⟩ := hrel
    have HWT := Lib.hid hwt
    have HK := Lib.hid hkp
    have HKW := Lib.hid (K0.out.trans hkp fun _ h => h.elim)
    have c0 : wr.cell? ⟨V.b, 0, none⟩ = some (.slice sp n cap) := HKW.out.cell HC0.out (fun h => h)
    clear hwt hkp
    by_cases h1 : k < n
    · obtain ⟨g, o, he, hr⟩ := HS.out.2 (by omega)
      obtain ⟨p, hp⟩ : ∃ p, l[k]? = some p := ⟨_, List.getElem?_eq_getElem (by rw [← HN.out]; exact h1)⟩
      have hpl := (HP.out p (List.mem_of_getElem? hp)).1
      subst he
      have rp := rangeAt_kp (pk_hash hr (fun x hx => (HP.out x hx).1) hp) HKW.out (fun h => h)
      have rh := rangeAt_kp B0.out HK.out (fun h => h)
      have rc := rangeAt_kp (F := fun _ => False) hr HKW.out (fun h => h)
      have ct := pk_text rc (fun x hx => (HP.out x hx).1) hp
      have hu := Try.underlying44
      have hi1 : (Try.prog.info? 44).map (·.size) = some (byteCells p.h).length := info44.trans (by simp [byteCells, hpl])
      have hi2 : (Try.prog.info? 44).map (·.size) = some (byteCells h).length := info44.trans (by simp [byteCells, hh])
      have heq := run_eq44 p.h h hpl hh
      have k0 : (0 : Int) ≤ (k : Int) := by omega
      have k1 : (k : Int) < (n : Int) := by omega
      have HPP := Lib.hid hp
      have hS : (fun w' : World => w'.rangeAt g (o + k * 33) (byteCells p.h) ∧ w'.rangeAt w.heap.size 0 (byteCells h) ∧ Kp (fun _ => False) wr w') wr.drew := ⟨rp, rh, Kp.drew _ _⟩
      have C0 := Lib.hid c0
      have CT := Lib.hid ct
      clear hr rc hp ct rp rh
      by_cases hph : p.h = h
      · have hbt : (p.h == h) = true := by simpa using hph
        have HPH := Lib.hid hph
        rw [hbt] at heq
        clear hbt hph
        go_wp2_with fail
        refine wp_region_held_drew (S := fun w' : World => w'.rangeAt g (o + k * 33) (byteCells p.h) ∧ w'.rangeAt w.heap.size 0 (byteCells h) ∧ Kp (fun _ => False) wr w') (by kernel_rfl) (hS) (fun hHeld => ?_)
        refine wpAnyH_take (i := 0) (v := ?v16) rfl (by kernel_rfl) (by kernel_rfl) (by kernel_rfl) (fun _ _ _ h => h) (Or.inl ⟨by rfl, ?y16⟩) (by assumption) ?r16
        case y16 =>
          intro wq hSw
          clear hSw
          go_simp
          with_reducible rfl
        simp only [Act.put, List.getElem_toArray, List.getElem_cons_succ, List.getElem_cons_zero, List.setIfInBounds_toArray, List.set_cons_zero, List.set_cons_succ]
        refine wpAnyH_take (i := 1) (v := ?v17) rfl (by kernel_rfl) (by kernel_rfl) (by kernel_rfl) (fun _ _ _ h => h) (Or.inl ⟨by rfl, ?y17⟩) (by assumption) ?r17
        case y17 =>
          intro wq hSw
          clear hSw
          go_simp
          with_reducible rfl
        simp only [Act.put, List.getElem_toArray, List.getElem_cons_succ, List.getElem_cons_zero, List.setIfInBounds_toArray, List.set_cons_zero, List.set_cons_succ]
        refine wpAnyH_take (i := 2) (v := ?v18) rfl (by kernel_rfl) (by kernel_rfl) (by kernel_rfl) (fun _ _ _ h => h) (Or.inl ⟨by rfl, ?y18⟩) (by assumption) ?r18
        case y18 =>
          intro wq hSw
          clear hSw
          go_simp
          with_reducible rfl
        simp only [Act.put, List.getElem_toArray, List.getElem_cons_succ, List.getElem_cons_zero, List.setIfInBounds_toArray, List.set_cons_zero, List.set_cons_succ]
        refine wpAnyH_take (i := 3) (v := ?v19) rfl (by kernel_rfl) (by kernel_rfl) (by kernel_rfl) (fun _ _ _ h => h) (Or.inl ⟨by rfl, ?y19⟩) (by assumption) ?r19
        case y19 =>
          intro wq hSw
          have q0 := hSw.2.2.cell C0.out (fun h => h)
          clear hSw
          go_simp
          with_reducible rfl
        simp only [Act.put, List.getElem_toArray, List.getElem_cons_succ, List.getElem_cons_zero, List.setIfInBounds_toArray, List.set_cons_zero, List.set_cons_succ]
        refine wpAnyH_take (i := 4) (v := ?v20) rfl (by kernel_rfl) (by kernel_rfl) (by kernel_rfl) (fun _ _ _ h => h) (Or.inl ⟨by rfl, ?y20⟩) (by assumption) ?r20
        case y20 =>
          intro wq hSw
          clear hSw
          go_simp
          with_reducible rfl
        simp only [Act.put, List.getElem_toArray, List.getElem_cons_succ, List.getElem_cons_zero, List.setIfInBounds_toArray, List.set_cons_zero, List.set_cons_succ]
        refine wpAnyH_take (i := 5) (v := ?v21) rfl (by kernel_rfl) (by kernel_rfl) (by kernel_rfl) (fun _ _ _ h => h) (Or.inl ⟨by rfl, ?y21⟩) (by assumption) ?r21
        case y21 =>
          intro wq hSw
          clear hSw
          go_simp
          with_reducible rfl
        simp only [Act.put, List.getElem_toArray, List.getElem_cons_succ, List.getElem_cons_zero, List.setIfInBounds_toArray, List.set_cons_zero, List.set_cons_succ]
        refine wpAnyH_take (i := 6) (v := ?v22) rfl (by kernel_rfl) (by kernel_rfl) (by kernel_rfl) (fun _ _ _ h => h) (Or.inl ⟨by rfl, ?y22⟩) (by assumption) ?r22
        case y22 =>
          intro wq hSw
          clear hSw
          go_simp
          with_reducible rfl
        simp only [Act.put, List.getElem_toArray, List.getElem_cons_succ, List.getElem_cons_zero, List.setIfInBounds_toArray, List.set_cons_zero, List.set_cons_succ]
        refine wpAnyH_take (i := 7) (v := _) rfl (by kernel_rfl) (by kernel_rfl) (by kernel_rfl) (fun _ _ _ h => h) (yieldsIf_load_mid (by rfl) _ _ rfl _ _ rfl _ _ (fun _ h => h.1) hu rfl hi1) (by assumption) ?_
        simp only [Act.put, List.getElem_toArray, List.getElem_cons_succ, List.getElem_cons_zero, List.setIfInBounds_toArray, List.set_cons_zero, List.set_cons_succ]
        refine wpAnyH_take (i := 8) (v := _) rfl (by kernel_rfl) (by kernel_rfl) (by kernel_rfl) (fun _ _ _ h => h) (yieldsIf_load_mid (by rfl) _ _ rfl _ _ rfl _ _ (fun _ h => h.2.1) hu rfl hi2) (by assumption) ?_
        simp only [Act.put, List.getElem_toArray, List.getElem_cons_succ, List.getElem_cons_zero, List.setIfInBounds_toArray, List.set_cons_zero, List.set_cons_succ]
        refine wpAnyH_take (i := 9) (v := ?v23) rfl (by kernel_rfl) (by kernel_rfl) (by kernel_rfl) (fun _ _ _ h => h) (Or.inl ⟨by rfl, ?y23⟩) (by assumption) ?r23
        case y23 =>
          intro wq hSw
          clear hSw
          go_simp
          with_reducible rfl
        simp only [Act.put, List.getElem_toArray, List.getElem_cons_succ, List.getElem_cons_zero, List.setIfInBounds_toArray, List.set_cons_zero, List.set_cons_succ]
        refine wpAnyH_done (by kernel_rfl) ?_ _
        have q0 := hHeld.2.2.cell C0.out (fun h => h)
        have q1 := hHeld.2.2.cell CT.out (fun h => h)
        have kf := HKW.out.trans hHeld.2.2 fun _ h => h.elim
        have KF := Lib.hid kf
        clear hHeld hS kf
        go_wp2_with fail
        go_ret
        exact ⟨by rw [HWT.out, wanted_hit HPP.out HPH.out]; rfl, KF.out⟩
      · have hbt : (p.h == h) = false := by simpa using hph
        have HPH := Lib.hid hph
        rw [hbt] at heq
        clear hbt hph
        go_wp2_with fail
        refine wp_region_held_drew (S := fun w' : World => w'.rangeAt g (o + k * 33) (byteCells p.h) ∧ w'.rangeAt w.heap.size 0 (byteCells h) ∧ Kp (fun _ => False) wr w') (by kernel_rfl) (hS) (fun hHeld => ?_)
        refine wpAnyH_take (i := 0) (v := ?v24) rfl (by kernel_rfl) (by kernel_rfl) (by kernel_rfl) (fun _ _ _ h => h) (Or.inl ⟨by rfl, ?y24⟩) (by assumption) ?r24
        case y24 =>
          intro wq hSw
          clear hSw
          go_simp
          with_reducible rfl
        simp only [Act.put, List.getElem_toArray, List.getElem_cons_succ, List.getElem_cons_zero, List.setIfInBounds_toArray, List.set_cons_zero, List.set_cons_succ]
        refine wpAnyH_take (i := 1) (v := ?v25) rfl (by kernel_rfl) (by kernel_rfl) (by kernel_rfl) (fun _ _ _ h => h) (Or.inl ⟨by rfl, ?y25⟩) (by assumption) ?r25
        case y25 =>
          intro wq hSw
          clear hSw
          go_simp
          with_reducible rfl
        simp only [Act.put, List.getElem_toArray, List.getElem_cons_succ, List.getElem_cons_zero, List.setIfInBounds_toArray, List.set_cons_zero, List.set_cons_succ]
        refine wpAnyH_take (i := 2) (v := ?v26) rfl (by kernel_rfl) (by kernel_rfl) (by kernel_rfl) (fun _ _ _ h => h) (Or.inl ⟨by rfl, ?y26⟩) (by assumption) ?r26
        case y26 =>
          intro wq hSw
          clear hSw
          go_simp
          with_reducible rfl
        simp only [Act.put, List.getElem_toArray, List.getElem_cons_succ, List.getElem_cons_zero, List.setIfInBounds_toArray, List.set_cons_zero, List.set_cons_succ]
        refine wpAnyH_take (i := 3) (v := ?v27) rfl (by kernel_rfl) (by kernel_rfl) (by kernel_rfl) (fun _ _ _ h => h) (Or.inl ⟨by rfl, ?y27⟩) (by assumption) ?r27
        case y27 =>
          intro wq hSw
          have q0 := hSw.2.2.cell C0.out (fun h => h)
          clear hSw
          go_simp
          with_reducible rfl
        simp only [Act.put, List.getElem_toArray, List.getElem_cons_succ, List.getElem_cons_zero, List.setIfInBounds_toArray, List.set_cons_zero, List.set_cons_succ]
        refine wpAnyH_take (i := 4) (v := ?v28) rfl (by kernel_rfl) (by kernel_rfl) (by kernel_rfl) (fun _ _ _ h => h) (Or.inl ⟨by rfl, ?y28⟩) (by assumption) ?r28
        case y28 =>
          intro wq hSw
          clear hSw
          go_simp
          with_reducible rfl
        simp only [Act.put, List.getElem_toArray, List.getElem_cons_succ, List.getElem_cons_zero, List.setIfInBounds_toArray, List.set_cons_zero, List.set_cons_succ]
        refine wpAnyH_take (i := 5) (v := ?v29) rfl (by kernel_rfl) (by kernel_rfl) (by kernel_rfl) (fun _ _ _ h => h) (Or.inl ⟨by rfl, ?y29⟩) (by assumption) ?r29
        case y29 =>
          intro wq hSw
          clear hSw
          go_simp
          with_reducible rfl
        simp only [Act.put, List.getElem_toArray, List.getElem_cons_succ, List.getElem_cons_zero, List.setIfInBounds_toArray, List.set_cons_zero, List.set_cons_succ]
        refine wpAnyH_take (i := 6) (v := ?v30) rfl (by kernel_rfl) (by kernel_rfl) (by kernel_rfl) (fun _ _ _ h => h) (Or.inl ⟨by rfl, ?y30⟩) (by assumption) ?r30
        case y30 =>
          intro wq hSw
          clear hSw
          go_simp
          with_reducible rfl
        simp only [Act.put, List.getElem_toArray, List.getElem_cons_succ, List.getElem_cons_zero, List.setIfInBounds_toArray, List.set_cons_zero, List.set_cons_succ]
        refine wpAnyH_take (i := 7) (v := _) rfl (by kernel_rfl) (by kernel_rfl) (by kernel_rfl) (fun _ _ _ h => h) (yieldsIf_load_mid (by rfl) _ _ rfl _ _ rfl _ _ (fun _ h => h.1) hu rfl hi1) (by assumption) ?_
        simp only [Act.put, List.getElem_toArray, List.getElem_cons_succ, List.getElem_cons_zero, List.setIfInBounds_toArray, List.set_cons_zero, List.set_cons_succ]
        refine wpAnyH_take (i := 8) (v := _) rfl (by kernel_rfl) (by kernel_rfl) (by kernel_rfl) (fun _ _ _ h => h) (yieldsIf_load_mid (by rfl) _ _ rfl _ _ rfl _ _ (fun _ h => h.2.1) hu rfl hi2) (by assumption) ?_
        simp only [Act.put, List.getElem_toArray, List.getElem_cons_succ, List.getElem_cons_zero, List.setIfInBounds_toArray, List.set_cons_zero, List.set_cons_succ]
        refine wpAnyH_take (i := 9) (v := ?v31) rfl (by kernel_rfl) (by kernel_rfl) (by kernel_rfl) (fun _ _ _ h => h) (Or.inl ⟨by rfl, ?y31⟩) (by assumption) ?r31
        case y31 =>
          intro wq hSw
          clear hSw
          go_simp
          with_reducible rfl
        simp only [Act.put, List.getElem_toArray, List.getElem_cons_succ, List.getElem_cons_zero, List.setIfInBounds_toArray, List.set_cons_zero, List.set_cons_succ]
        refine wpAnyH_done (by kernel_rfl) ?_ _
        have kf := HK.out.trans hHeld.2.2 fun _ h => h.elim
        have KF := Lib.hid kf
        clear hHeld hS kf
        go_wp2_with fail
        go_roundw
        case rel => exact ⟨k + 1, by simp, by rw [← HN.out]; omega, HWT.out.trans (wanted_skip HPP.out HPH.out), KF.out⟩
        case measure => simp [Go.RowKit.intOf]; omega
    · obtain rfl : k = n := by have := HN.out; omega
      have hd : l.drop k = [] := List.drop_of_length_le (by have := HN.out; omega)
      have HF : Hid (wantedS l h = emptyS) := Lib.hid (by rw [HWT.out, hd]; rfl)
      clear hd
      go_wp2_with fail
      go_ret
      exact ⟨by rw [HF.out]; rfl, HKW.out⟩

end Go.Proofs.Ytlkamfmepjddkaa
