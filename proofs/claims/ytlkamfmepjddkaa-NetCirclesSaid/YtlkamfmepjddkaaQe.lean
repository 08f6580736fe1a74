/- Walk: NetCircles. -/
import Derived.Test.YtlkamfmepjddkaaQd
import Derived.Test.YtlkamfmepjddkaaL1
set_option linter.unusedSimpArgs false
set_option linter.unusedVariables false
namespace Go.Proofs.Ytlkamfmepjddkaa
open Go.RowKit Go.Lib Go.Maps

/-- Two nets, their desks, and the scripts' cell of the first model. -/
structure CAt (W u : World) (xa xb ra rb ns cc : Nat) (ss : Option Addr) (va vb : Nat) (Va Vb : NV) (a b : NS) : Prop where
  na : NetP u W.heap.size Va a
  nb : NetP u W.heap.size Vb b
  dj : ∀ k, Va.dom k → ¬ Vb.dom k
  ba : Va.b = va
  bb : Vb.b = vb
  xa : u.heap[xa]? = some (.cells [.pointer (some ⟨va, 0, none⟩), .pointer (some ⟨ra, 0, none⟩)].toArray 31 (0, 0))
  xb : u.heap[xb]? = some (.cells [.pointer (some ⟨vb, 0, none⟩), .pointer (some ⟨rb, 0, none⟩)].toArray 31 (0, 0))
  ro : ∃ cs : Array Value, u.heap[ra]? = some (.cells cs 63 (0, 0)) ∧ cs[2]? = some (.slice ss ns cc)
  k : Kp (fun q => W.heap.size ≤ q) W u
section
variable {W u u' : World} {xa xb ra rb ns cc : Nat} {ss : Option Addr} {va vb : Nat} {Va Vb : NV} {a b : NS}
theorem CAt.ca (h : CAt W u xa xb ra rb ns cc ss va vb Va Vb a b) : u.cell? ⟨xa, 0, none⟩ = some (.pointer (some ⟨va, 0, none⟩)) := cell_of_row _ _ 0 _ _ _ h.xa
theorem CAt.ca1 (h : CAt W u xa xb ra rb ns cc ss va vb Va Vb a b) : u.cell? ⟨xa, 1, none⟩ = some (.pointer (some ⟨ra, 0, none⟩)) := cell_of_row _ _ 1 _ _ _ h.xa
theorem CAt.cb (h : CAt W u xa xb ra rb ns cc ss va vb Va Vb a b) : u.cell? ⟨xb, 0, none⟩ = some (.pointer (some ⟨vb, 0, none⟩)) := cell_of_row _ _ 0 _ _ _ h.xb
theorem CAt.cr (h : CAt W u xa xb ra rb ns cc ss va vb Va Vb a b) : u.cell? ⟨ra, 2, none⟩ = some (.slice ss ns cc) := by
  obtain ⟨cs, h1, h2⟩ := h.ro
  rw [cell_of_row _ _ _ _ _ _ h1]
  exact h2
theorem CAt.keepF (h : CAt W u xa xb ra rb ns cc ss va vb Va Vb a b) {F : Nat → Prop} (hk : Kp F u u') (h1 : ∀ q, Va.dom q → ¬ F q) (h2 : ∀ q, Vb.dom q → ¬ F q) (h3 : ¬ F xa) (h4 : ¬ F xb) (h5 : ¬ F ra) (h6 : ∀ q, F q → W.heap.size ≤ q) : CAt W u' xa xb ra rb ns cc ss va vb Va Vb a b := by
  obtain ⟨cs, hr, hc⟩ := h.ro
  exact ⟨h.na.keep hk h1, h.nb.keep hk h2, h.dj, h.ba, h.bb, hk.heap h.xa h3, hk.heap h.xb h4, ⟨cs, hk.heap hr h5, hc⟩, h.k.trans hk fun q hq => .inl (h6 q hq)⟩
theorem CAt.keep0 (h : CAt W u xa xb ra rb ns cc ss va vb Va Vb a b) (hk : Kp (fun _ => False) u u') : CAt W u' xa xb ra rb ns cc ss va vb Va Vb a b :=
  h.keepF hk (fun _ _ h => h) (fun _ _ h => h) (fun h => h) (fun h => h) (fun h => h) (fun _ h => h.elim)
theorem CAt.stepA {a' : NS} {vr : Value} (h : CAt W u xa xb ra rb ns cc ss va vb Va Vb a b) (hn : NetP u' W.heap.size { Va with vr := vr } a') (hk : Kp Va.foot u u') (hl : ∀ k, vr.ownBlock = some k → Va.vr.ownBlock = some k ∨ u.heap.size ≤ k) : CAt W u' xa xb ra rb ns cc ss va vb { Va with vr := vr } Vb a' b := by
  obtain ⟨cs, hr, hc⟩ := h.ro
  exact ⟨hn, h.nb.keep hk fun q hd hf => h.dj q (NV.foot_dom hf) hd, fun q h1 h2 => by
    rcases NV.dom_vr hl h1 with h3 | h3
    · exact h.dj q h3 h2
    · have := (h.nb.dom_lt h2).2; omega, h.ba, h.bb, hk.heap h.xa (h.na.not_foot h.xa (by decide) (by decide) (by decide)), hk.heap h.xb (h.na.not_foot h.xb (by decide) (by decide) (by decide)), ⟨cs, hk.heap hr (h.na.not_foot hr (by decide) (by decide) (by decide)), hc⟩, h.k.trans hk fun q hq => .inl (h.na.dom_lt (NV.foot_dom hq)).1⟩
theorem CAt.stepB {b' : NS} {vr : Value} (h : CAt W u xa xb ra rb ns cc ss va vb Va Vb a b) (hn : NetP u' W.heap.size { Vb with vr := vr } b') (hk : Kp Vb.foot u u') (hl : ∀ k, vr.ownBlock = some k → Vb.vr.ownBlock = some k ∨ u.heap.size ≤ k) : CAt W u' xa xb ra rb ns cc ss va vb Va { Vb with vr := vr } a b' := by
  obtain ⟨cs, hr, hc⟩ := h.ro
  exact ⟨h.na.keep hk fun q hd hf => h.dj q hd (NV.foot_dom hf), hn, fun q h1 h2 => by
    rcases NV.dom_vr hl h2 with h3 | h3
    · exact h.dj q h1 h3
    · have := (h.na.dom_lt h1).2; omega, h.ba, h.bb, hk.heap h.xa (h.nb.not_foot h.xa (by decide) (by decide) (by decide)), hk.heap h.xb (h.nb.not_foot h.xb (by decide) (by decide) (by decide)), ⟨cs, hk.heap hr (h.nb.not_foot hr (by decide) (by decide) (by decide)), hc⟩, h.k.trans hk fun q hq => .inl (h.nb.dom_lt (NV.foot_dom hq)).1⟩
end

def waitLen (w : World) (vb : Nat) : Nat :=
  match w.cell? ⟨vb, 5, none⟩ with
  | some (.slice _ n _) => n
  | _ => 0
theorem waitLen_eq {w : World} {B : Nat} {V : NV} {s : NS} (h : NetP w B V s) : waitLen w V.b = s.replies.length := by
  obtain ⟨sp, cap, hv, _, _, _, _⟩ := Src.of_own h.rep
  obtain ⟨_, _, _, _, _, c5, _⟩ := obj_cells h.obj
  unfold waitLen
  rw [c5, hv]

/-- A row apart from both. -/
def Apart (v : Value) (Va Vb : NV) : Prop := ∀ q, v.ownBlock = some q → ¬ Va.dom q ∧ ¬ Vb.dom q

theorem Apart.stepA {v : Value} {Va Vb : NV} {vr : Value} {n : Nat} (h : Apart v Va Vb) (hl : ∀ k, vr.ownBlock = some k → Va.vr.ownBlock = some k ∨ n ≤ k) (hlt : ∀ q, v.ownBlock = some q → q < n) : Apart v { Va with vr := vr } Vb := fun q hq =>
  ⟨fun hd => by
    rcases NV.dom_vr hl hd with h1 | h1
    · exact (h q hq).1 h1
    · have := hlt q hq; omega, (h q hq).2⟩
theorem Apart.stepB {v : Value} {Va Vb : NV} {vr : Value} {n : Nat} (h : Apart v Va Vb) (hl : ∀ k, vr.ownBlock = some k → Vb.vr.ownBlock = some k ∨ n ≤ k) (hlt : ∀ q, v.ownBlock = some q → q < n) : Apart v Va { Vb with vr := vr } := fun q hq =>
  ⟨(h q hq).1, fun hd => by
    rcases NV.dom_vr hl hd with h1 | h1
    · exact (h q hq).2 h1
    · have := hlt q hq; omega⟩
theorem askS_scr (s : NS) (now mir : Int) (h : List UInt8) : (askS s now mir h).scripts = s.scripts := by
  unfold askS
  split
  · rfl
  · split <;> rfl
theorem rps_at {w : World} {B n d : Nat} {s : Option Addr} {X : List Rp} (h : w.ownsRow B 50 4 (.slice s n d) n (rps X)) {j : Nat} {r : Rp} (hr : X[j]? = some r) (hj : j < n) : ∃ g, s = some ⟨g, 0, none⟩ ∧ w.cell? ⟨g, j * 4 + 2, none⟩ = some (.int .i64 r.at') ∧ w.cell? ⟨g, j * 4 + 3, none⟩ = some (.string r.b) := by
  obtain ⟨g, e, _, hc, _, _⟩ := own_cells h (by omega)
  refine ⟨g, e, ?_, ?_⟩
  · have := hc (j * 4 + 2) (.int .i64 r.at') (by rw [rps, flat_at rpCells 4 X j r (fun _ _ => rfl) hr 2 (by decide)]; rfl)
    rwa [Nat.zero_add] at this
  · have := hc (j * 4 + 3) (.string r.b) (by rw [rps, flat_at rpCells 4 X j r (fun _ _ => rfl) hr 3 (by decide)]; rfl)
    rwa [Nat.zero_add] at this

def CiRel1 (W : World) (xa xb ra rb ns cc : Nat) (ss : Option Addr) (va vb gq kk n : Nat) (i : Value) (wr : World) : Prop :=
  ∃ (j : Nat) (Va Vb : NV) (a b : NS), i = .int .i64 (j : Int) ∧ j ≤ n ∧ j ≤ 30 ∧ CAt W wr xa xb ra rb ns cc ss va vb Va Vb a b ∧ wr.heap[gq]? = some (.cells (reqL (kk : Int) (hashK 1)).toArray 46 (0, 0)) ∧
    Both kk a b ∧ a.scripts.length = ns ∧ a.n ≤ j ∧ b.n ≤ j ∧ a.replies.length ≤ 2 * j
def CiRel2 (W : World) (xa xb ra rb ns cc : Nat) (ss : Option Addr) (va vb kk : Nat) (b : NS) (D : List Rp) (acc : Value) (wr : World) : Prop :=
  ∃ (X : List Rp) (Va Vb : NV) (a : NS) (s : Option Addr) (d : Nat), acc = .slice s X.length d ∧ CAt W wr xa xb ra rb ns cc ss va vb Va Vb a b ∧ wr.ownsRow W.heap.size 50 4 (.slice s X.length d) X.length (rps X) ∧ Apart (.slice s X.length d) Va Vb ∧
    X ++ drain (ofMir kk a.replies) = D ∧ X.length + a.replies.length ≤ 60
def CiRel3 (W : World) (xa xb ra rb ns cc : Nat) (ss : Option Addr) (va vb kk : Nat) (a : NS) (X : List Rp) (v : Value) (i : Value) (wr : World) : Prop :=
  ∃ (j : Nat) (Va Vb : NV) (b : NS) (F : List Rp), i = .int .i64 (j : Int) ∧ j ≤ X.length ∧ CAt W wr xa xb ra rb ns cc ss va vb Va Vb a b ∧ wr.ownsRow W.heap.size 50 4 v X.length (rps X) ∧ Apart v Va Vb ∧ Corr kk F b.replies ∧ drain F = X.drop j

theorem init_both (LP LO : List ByteArray) (LS : List (List Bh)) (k : Nat) : Both k (initS (pkL LP) (pkL LO) (scL LS)) (initS (pkL LP) (pkL LO) (scL LS)) :=
  ⟨rfl, rfl, rfl, rfl, by simp [initS], by simp [initS], by intro r hr; simp [initS] at hr, by intro r hr; simp [initS] at hr, ⟨rfl, by intro i f b hf; simp [initS, ofMir] at hf, by intro i j f g b c hf; simp [initS, ofMir] at hf⟩⟩

set_option maxRecDepth 100000 in
set_option maxHeartbeats 8000000 in
theorem circles_walk (W : World) (v : Value) (LP LO : List ByteArray) (LS : List (List Bh)) (spu : Option Addr) (capu : Nat) (US : List UInt8) (wh : UInt8) (hv : WArg W v LP LO LS) (hU : Src W 1 spu US.length (byteCells US)) :
    Calls Try.prog 6 #[v, .slice spu US.length capu, .int .u8 (wh.toNat : Int)] W (LawPost W) := by
  obtain ⟨i50, hi50, hza, hzb, hzc⟩ := info_parts info50
  obtain ⟨n, hn⟩ : ∃ n, n = US.length := ⟨_, rfl⟩
  rw [← hn] at hU ⊢
  have HN := Lib.hid hn
  have HU := Lib.hid hU
  have HV := Lib.hid hv
  obtain ⟨sp1, c1, sp2, c2, sp3, c3, sv, hform, _, _, _⟩ := hv.form
  obtain ⟨q1, hq1⟩ : ∃ q, q = Value.slice sp1 LP.length c1 := ⟨_, rfl⟩
  obtain ⟨q2, hq2⟩ : ∃ q, q = Value.slice sp2 LO.length c2 := ⟨_, rfl⟩
  obtain ⟨q3, hq3⟩ : ∃ q, q = Value.slice sp3 LS.length c3 := ⟨_, rfl⟩
  rw [← hq1, ← hq2, ← hq3] at hform
  obtain ⟨w0, hw0⟩ : ∃ w0, w0 = W.alloc (.cells #[q1, q2, q3] 25) := ⟨_, rfl⟩
  have k0 : Kp (fun _ => False) W w0 := by rw [hw0]; exact Kp.alloc _ _ _
  have hA : w0.heap[W.heap.size]? = some (.cells #[q1, q2, q3] 25 (0, 0)) := by rw [hw0]; exact heap_alloc_new W _
  have K0 := Lib.hid k0
  have HA := Lib.hid hA
  have o1 : q1.oneCell' = true := by rw [hq1]; rfl
  have o2 : q2.oneCell' = true := by rw [hq2]; rfl
  have o3 : q3.oneCell' = true := by rw [hq3]; rfl
  obtain ⟨wi, hwi⟩ : ∃ x : Int, x = (wh.toNat : Int) := ⟨_, rfl⟩
  have hwi0 : 0 ≤ wi := by omega
  have hwi1 : wi ≤ 255 := by have := UInt8.toNat_lt wh; omega
  rw [← hwi]
  have HWI := Lib.hid hwi
  subst hform
  clear hn hU hv k0 hA hq1 hq2 hq3 hwi
  go_enter Try.func6, Try.ntmps6
  go_wp2_with fail
  rw [← hw0]
  clear hw0
  refine (sanity_any w0).mono ?_
  rintro e w1 ⟨rfl, k1⟩
  have K1 : Hid (Kp (fun _ => False) W w1) := Lib.hid (K0.out.trans k1 fun _ h => h.elim)
  have HA1 := Lib.hid (k1.heap HA.out (fun h => h))
  clear k1
  obtain ⟨st, hst⟩ : ∃ st, st = initS (pkL LP) (pkL LO) (scL LS) := ⟨_, rfl⟩
  have hb0 := fun k => hst ▸ init_both LP LO LS k
  have HB0 := Lib.hid hb0
  have hs0 : st.n = 0 := by rw [hst]; rfl
  have hsr : st.replies = [] := by rw [hst]; rfl
  have HS0 := Lib.hid hs0
  have HSR := Lib.hid hsr
  have HST := Lib.hid hst
  clear hb0 hs0 hsr hst
  go_wp2_with (refine wpList_load_mid rfl 25 (.tmp 3) rfl W.heap.size 0 rfl [q1, q2, q3] _ (range_of_heap HA1.out) Try.underlying25 rfl (by kernel_rfl) ?_)
  refine (begin_any w1 _ LP LO LS (HV.out.keep0 K1.out)).mono ?_
  rintro e w2 ⟨V, R, rfl, hd, k2⟩
  rw [← HST.out] at hd
  have D2 := Lib.hid (hd.down K1.out.size)
  have K2 : Hid (Kp (fun _ => False) W w2) := Lib.hid (K1.out.trans k2 fun _ h => h.elim)
  have HA2 := Lib.hid (k2.heap HA1.out (fun h => h))
  clear hd k2
  dsimp only
  go_wp2_with (first
    | (refine wpList_alloc31 rfl rfl ?_; intro xa w3 z3 hz3 hg3 eg3 sg3 k3; have HZ3 := Lib.hid hz3; have HG3 := Lib.hid hg3; have EG3 := Lib.hid eg3; have K3 := Lib.hid k3; clear hz3 hg3 eg3 sg3 k3)
    | (refine wpList_store31 rfl (.tmp 8) (.tmp 22) rfl xa V R rfl rfl z3 HG3.out HZ3.out ?_; intro w4 hg4 k4; have LA := Lib.hid (law_start D2.out K2.out K3.out EG3.out k4 hg4); have K24 : Hid (Kp (fun _ => False) w2 w4) := Lib.hid ((K3.out.zero.trans k4 fun q h => .inl h : Kp (fun k => k = xa) w2 w4).mono fun q h => .inr (by have := EG3.out; omega)); clear hg4 k4)
    | (refine wpList_load_mid rfl 25 (.tmp 3) rfl W.heap.size 0 rfl [q1, q2, q3] _ (range_of_heap (K24.out.heap HA2.out (fun h => h))) Try.underlying25 rfl (by kernel_rfl) ?_))
  have K4 : Hid (Kp (fun _ => False) W w4) := Lib.hid (K2.out.trans K24.out fun _ h => h.elim)
  refine (begin_any w4 _ LP LO LS (HV.out.keep0 K4.out)).mono ?_
  rintro e w5 ⟨Vb, Rb, rfl, hd, k5⟩
  rw [← HST.out] at hd
  have K5 : Hid (Kp (fun _ => False) W w5) := Lib.hid (K4.out.trans k5 fun _ h => h.elim)
  obtain ⟨ss, cc, hvs, _, _, _, _⟩ := Src.of_own D2.out.r.scr
  obtain ⟨ns, hns⟩ : ∃ n, n = st.scripts.length := ⟨_, rfl⟩
  rw [← hns] at hvs
  have hns5 : ns ≤ 5 := by rw [hns, HST.out]; simp only [initS, scL, List.length_map, List.length_take]; omega
  have HNS := Lib.hid hns
  have C5 : Hid (CAt W w5 xa xa R.b R.b ns cc ss V.b V.b V Vb st st → True) := Lib.hid fun _ => trivial
  have NA5 := Lib.hid (LA.out.d.n.keep0 k5)
  have NB5 := Lib.hid (hd.n.down K4.out.size)
  have XA5 := Lib.hid (k5.heap LA.out.dx (fun h => h))
  have RO5 : Hid (w5.heap[R.b]? = some (.cells #[R.vp, R.vo, .slice ss ns cc, R.va, .int .i64 (st.n : Int), R.vr] 63 (0, 0))) := Lib.hid (by
    have := k5.heap LA.out.d.r.obj (fun h => h)
    rw [← hvs]
    exact this)
  have DJ5 : Hid (∀ k, V.dom k → ¬ Vb.dom k) := Lib.hid fun k h1 h2 => by have := (LA.out.d.n.dom_lt h1).2; have := (hd.n.dom_lt h2).1; omega
  clear hd k5 hvs hns C5
  obtain ⟨va, hva⟩ : ∃ x, x = V.b := ⟨_, rfl⟩
  obtain ⟨vb, hvb⟩ : ∃ x, x = Vb.b := ⟨_, rfl⟩
  obtain ⟨ra, hra⟩ : ∃ x, x = R.b := ⟨_, rfl⟩
  obtain ⟨rb, hrb⟩ : ∃ x, x = Rb.b := ⟨_, rfl⟩
  rw [← hva, ← hra] at XA5
  rw [← hra] at RO5
  have HVA := Lib.hid hva
  have HVBb := Lib.hid hvb
  have HRB := Lib.hid hrb
  clear hva hra hvb hrb
  dsimp only
  go_upto_region 4 with (first
    | (refine wpList_alloc31 rfl rfl ?_; intro xb w6 z6 hz6 hg6 eg6 sg6 k6; have HZ6 := Lib.hid hz6; have HG6 := Lib.hid hg6; have EG6 := Lib.hid eg6; have K6 := Lib.hid k6; clear hz6 hg6 eg6 sg6 k6)
    | (refine wpList_store31 rfl (.tmp 9) (.tmp 24) rfl xb Vb Rb rfl rfl z6 HG6.out HZ6.out ?_; intro w7 hg7 k7; have K57 : Hid (Kp (fun _ => False) w5 w7) := Lib.hid ((K6.out.zero.trans k7 fun q h => .inl h : Kp (fun k => k = xb) w5 w7).mono fun q h => .inr (by have := EG6.out; omega)); have CA : Hid (CAt W w7 xa xb ra rb ns cc ss va vb V Vb st st) := Lib.hid ⟨NA5.out.keep0 K57.out, NB5.out.keep0 K57.out, DJ5.out, HVA.out.symm, HVBb.out.symm, K57.out.heap XA5.out (fun h => h), by rw [HVBb.out, HRB.out]; exact hg7, ⟨_, K57.out.heap RO5.out (fun h => h), rfl⟩, (K5.out.trans K57.out fun _ (h : False) => h.elim).zero⟩; clear hg7 k7))
  have e0 := CA.out.ca
  have e1 := CA.out.cb
  have e2 := CA.out.ca1
  have e3 := CA.out.cr
  by_cases hz : ns = 0
  · have hzi : ((ns : Int) == 0) = true := by rw [hz]; rfl
    clear hz
    go_wp2_with fail
    go_ret
    exact ⟨rfl, CA.out.k⟩
  · have hzi : ((ns : Int) == 0) = false := by rw [beq_eq_false_iff_ne]; omega
    have hnsp : (0 : Int) < (ns : Int) := by omega
    obtain ⟨kk, hkk⟩ : ∃ k : Nat, k = wh.toNat % ns := ⟨_, rfl⟩
    have hkl : kk < ns := by rw [hkk]; exact Nat.mod_lt _ (by omega)
    have hkm : wi % (ns : Int) = (kk : Int) := by rw [HWI.out, hkk]; rfl
    have HKM := Lib.hid hkm
    clear hkk
    go_upto_region 7 with (fail)
    rw [hkm]
    clear hkm e0 e1 e2 e3
    go_upto_region 8 with (first
      | (refine wpList_build_run rfl 44 #[(0, .const (.int .u8 1))] rfl #[(0, .int .u8 1)] (by simp only [List.map_toArray, List.map_cons, List.map_nil]; rfl) _ (built44 1) ?_)
      | (refine wpList_build_run rfl 46 #[(0, .tmp 62), (1, .tmp 63)] rfl #[(0, .int .i64 (kk : Int)), (1, .agg (byteCells (hashK 1)).toArray)] (by simp only [List.map_toArray, List.map_cons, List.map_nil]; rfl) _ (built46 kk 1) ?_)
      | (refine wpList_alloc46 rfl rfl ?_; intro gq w8 z8 hz8 hg8 eg8 sg8 k8; have HZ8 := Lib.hid hz8; have HG8 := Lib.hid hg8; have EG8 := Lib.hid eg8; have K8 := Lib.hid k8; clear hz8 hg8 eg8 sg8 k8)
      | (refine wpList_store46 rfl (.tmp 11) (.tmp 64) rfl gq (kk : Int) (hashK 1) rfl rfl rfl z8 HG8.out HZ8.out ?_; intro w9 hg9 k9; have K79 : Hid (Kp (fun _ => False) w7 w9) := Lib.hid ((K8.out.zero.trans k9 fun q h => .inl h : Kp (fun q => q = gq) w7 w9).mono fun q h => .inr (by have := EG8.out; omega)); have GQ9 := Lib.hid hg9; clear hg9 k9))
    have CA9 := Lib.hid (CA.out.keep0 K79.out)
    go_wp2_with fail
    go_loopw [12] (fun i wr => CiRel1 W xa xb ra rb ns cc ss va vb gq kk n i wr) (fun i _ => n - (Go.RowKit.intOf i).toNat)
    case atStart => exact ⟨0, V, Vb, st, st, rfl, Nat.zero_le _, Nat.zero_le _, CA9.out, GQ9.out, HB0.out kk, HNS.out.symm, by rw [HS0.out]; exact Nat.le_refl _, by rw [HS0.out]; exact Nat.le_refl _, by rw [HSR.out]; exact Nat.le_refl _⟩
    case round =>
      obtain ⟨j, Va1, Vb1, a, b, rfl, hj, hj30, hca, hgq, hbo, hsl, han, hbn, har⟩ := hrel
      have HC := Lib.hid hca
      have HGQ := Lib.hid hgq
      have HBO := Lib.hid hbo
      have HSL := Lib.hid hsl
      clear hca hgq hbo hsl
      by_cases hlt : j < n
      · by_cases h30 : j < 30
        · obtain ⟨og, oo, rfl, hr⟩ := HU.out.2 (by omega)
          obtain ⟨uc, huc⟩ : ∃ c, US[j]? = some c := ⟨_, List.getElem?_eq_getElem (by rw [← HN.out]; exact hlt)⟩
          obtain ⟨ui, hui⟩ : ∃ x : Int, x = (uc.toNat : Int) := ⟨_, rfl⟩
          have hui0 : 0 ≤ ui := by omega
          have hui1 : ui ≤ 255 := by have := UInt8.toNat_lt uc; omega
          have cu0 : W.cell? ⟨og, oo + j, none⟩ = some (.int .u8 ui) := by rw [hui]; exact hr j _ (by simp [byteCells, huc])
          have ogW := World.block_lt_of_cell? W _ cu0
          have cu : Hid (wr.cell? ⟨og, oo + j, none⟩ = some (.int .u8 ui)) := Lib.hid (HC.out.k.cell cu0 (by show ¬ W.heap.size ≤ og; have : og < W.heap.size := ogW; omega))
          obtain ⟨mm, hmm⟩ : ∃ m : Nat, m = uc.toNat % ns := ⟨_, rfl⟩
          have hml : mm < ns := by rw [hmm]; exact Nat.mod_lt _ (by omega)
          have hmi : ui % (ns : Int) = (mm : Int) := by rw [hui, hmm]; rfl
          have hwm : (IntKind.i64.wrap ui).tmod (ns : Int) = (mm : Int) := by rw [IntWalk.i64_in _ (by omega), Int.tmod_eq_emod_of_nonneg hui0, hmi]
          have HWM := Lib.hid hwm
          have j0 : (0 : Int) ≤ (j : Int) := by omega
          have j1 : (j : Int) < (n : Int) := by omega
          have j30 : (j : Int) < 30 := by omega
          have cxa1 := Lib.hid HC.out.ca1
          have crr := Lib.hid HC.out.cr
          clear hr huc hui cu0 hmm hmi hwm
          go_wp2_with fail
          refine wp_region_held_drew (S := Kp (fun _ => False) wr) (by kernel_rfl) (Kp.drew _ _) (fun hHeld => ?_)
          refine wpAnyH_take (i := 0) (v := ?v57) rfl (by kernel_rfl) (by kernel_rfl) (by kernel_rfl) (fun _ _ _ h => h) (Or.inl ⟨by rfl, ?y57⟩) (by assumption) ?r57
          case y57 =>
            intro wq hSw
            clear hSw
            go_simp
            with_reducible rfl
          simp only [Act.put, List.getElem_toArray, List.getElem_cons_succ, List.getElem_cons_zero, List.setIfInBounds_toArray, List.set_cons_zero, List.set_cons_succ]
          refine wpAnyH_take (i := 1) (v := ?v58) rfl (by kernel_rfl) (by kernel_rfl) (by kernel_rfl) (fun _ _ _ h => h) (Or.inl ⟨by rfl, ?y58⟩) (by assumption) ?r58
          case y58 =>
            intro wq hSw
            clear hSw
            go_simp
            with_reducible rfl
          simp only [Act.put, List.getElem_toArray, List.getElem_cons_succ, List.getElem_cons_zero, List.setIfInBounds_toArray, List.set_cons_zero, List.set_cons_succ]
          refine wpAnyH_take (i := 2) (v := ?v59) rfl (by kernel_rfl) (by kernel_rfl) (by kernel_rfl) (fun _ _ _ h => h) (Or.inl ⟨by rfl, ?y59⟩) (by assumption) ?r59
          case y59 =>
            intro wq hSw
            clear hSw
            go_simp
            with_reducible rfl
          simp only [Act.put, List.getElem_toArray, List.getElem_cons_succ, List.getElem_cons_zero, List.setIfInBounds_toArray, List.set_cons_zero, List.set_cons_succ]
          refine wpAnyH_take (i := 3) (v := ?v60) rfl (by kernel_rfl) (by kernel_rfl) (by kernel_rfl) (fun _ _ _ h => h) (Or.inl ⟨by rfl, ?y60⟩) (by assumption) ?r60
          case y60 =>
            intro wq hSw
            have q0 := hSw.cell cu.out (fun h => h)
            clear hSw
            go_simp
            with_reducible rfl
          simp only [Act.put, List.getElem_toArray, List.getElem_cons_succ, List.getElem_cons_zero, List.setIfInBounds_toArray, List.set_cons_zero, List.set_cons_succ]
          refine wpAnyH_take (i := 4) (v := ?v61) rfl (by kernel_rfl) (by kernel_rfl) (by kernel_rfl) (fun _ _ _ h => h) (Or.inl ⟨by rfl, ?y61⟩) (by assumption) ?r61
          case y61 =>
            intro wq hSw
            clear hSw
            go_simp
            with_reducible rfl
          simp only [Act.put, List.getElem_toArray, List.getElem_cons_succ, List.getElem_cons_zero, List.setIfInBounds_toArray, List.set_cons_zero, List.set_cons_succ]
          refine wpAnyH_take (i := 5) (v := ?v62) rfl (by kernel_rfl) (by kernel_rfl) (by kernel_rfl) (fun _ _ _ h => h) (Or.inl ⟨by rfl, ?y62⟩) (by assumption) ?r62
          case y62 =>
            intro wq hSw
            clear hSw
            go_simp
            with_reducible rfl
          simp only [Act.put, List.getElem_toArray, List.getElem_cons_succ, List.getElem_cons_zero, List.setIfInBounds_toArray, List.set_cons_zero, List.set_cons_succ]
          refine wpAnyH_take (i := 6) (v := ?v63) rfl (by kernel_rfl) (by kernel_rfl) (by kernel_rfl) (fun _ _ _ h => h) (Or.inl ⟨by rfl, ?y63⟩) (by assumption) ?r63
          case y63 =>
            intro wq hSw
            have q0 := hSw.cell cxa1.out (fun h => h)
            clear hSw
            go_simp
            with_reducible rfl
          simp only [Act.put, List.getElem_toArray, List.getElem_cons_succ, List.getElem_cons_zero, List.setIfInBounds_toArray, List.set_cons_zero, List.set_cons_succ]
          refine wpAnyH_take (i := 7) (v := ?v64) rfl (by kernel_rfl) (by kernel_rfl) (by kernel_rfl) (fun _ _ _ h => h) (Or.inl ⟨by rfl, ?y64⟩) (by assumption) ?r64
          case y64 =>
            intro wq hSw
            clear hSw
            go_simp
            with_reducible rfl
          simp only [Act.put, List.getElem_toArray, List.getElem_cons_succ, List.getElem_cons_zero, List.setIfInBounds_toArray, List.set_cons_zero, List.set_cons_succ]
          refine wpAnyH_take (i := 8) (v := ?v65) rfl (by kernel_rfl) (by kernel_rfl) (by kernel_rfl) (fun _ _ _ h => h) (Or.inl ⟨by rfl, ?y65⟩) (by assumption) ?r65
          case y65 =>
            intro wq hSw
            clear hSw
            go_simp
            with_reducible rfl
          simp only [Act.put, List.getElem_toArray, List.getElem_cons_succ, List.getElem_cons_zero, List.setIfInBounds_toArray, List.set_cons_zero, List.set_cons_succ]
          refine wpAnyH_take (i := 9) (v := ?v66) rfl (by kernel_rfl) (by kernel_rfl) (by kernel_rfl) (fun _ _ _ h => h) (Or.inl ⟨by rfl, ?y66⟩) (by assumption) ?r66
          case y66 =>
            intro wq hSw
            have q0 := hSw.cell crr.out (fun h => h)
            clear hSw
            go_simp
            with_reducible rfl
          simp only [Act.put, List.getElem_toArray, List.getElem_cons_succ, List.getElem_cons_zero, List.setIfInBounds_toArray, List.set_cons_zero, List.set_cons_succ]
          refine wpAnyH_take (i := 10) (v := ?v67) rfl (by kernel_rfl) (by kernel_rfl) (by kernel_rfl) (fun _ _ _ h => h) (Or.inl ⟨by rfl, ?y67⟩) (by assumption) ?r67
          case y67 =>
            intro wq hSw
            clear hSw
            go_simp
            with_reducible rfl
          simp only [Act.put, List.getElem_toArray, List.getElem_cons_succ, List.getElem_cons_zero, List.setIfInBounds_toArray, List.set_cons_zero, List.set_cons_succ]
          refine wpAnyH_take (i := 11) (v := ?v68) rfl (by kernel_rfl) (by kernel_rfl) (by kernel_rfl) (fun _ _ _ h => h) (Or.inl ⟨by rfl, ?y68⟩) (by assumption) ?r68
          case y68 =>
            intro wq hSw
            clear hSw
            go_simp
            with_reducible rfl
          simp only [Act.put, List.getElem_toArray, List.getElem_cons_succ, List.getElem_cons_zero, List.setIfInBounds_toArray, List.set_cons_zero, List.set_cons_succ]
          refine wpAnyH_take (i := 12) (v := ?v69) rfl (by kernel_rfl) (by kernel_rfl) (by kernel_rfl) (fun _ _ _ h => h) (Or.inl ⟨by rfl, ?y69⟩) (by assumption) ?r69
          case y69 =>
            intro wq hSw
            clear hSw
            go_simp
            with_reducible rfl
          simp only [Act.put, List.getElem_toArray, List.getElem_cons_succ, List.getElem_cons_zero, List.setIfInBounds_toArray, List.set_cons_zero, List.set_cons_succ]
          refine wpAnyH_done (by kernel_rfl) ?_ _
          rw [HWM.out]
          have C1 := Lib.hid (HC.out.keep0 (Kp.drew _ wr))
          have GQ1 := Lib.hid ((Kp.drew (fun _ => False) wr).heap HGQ.out (fun h => h))
          have e0 := C1.out.ca
          clear hHeld
          by_cases hmk : mm = kk
          · subst hmk
            have HI46 : Hid ((Try.prog.info? 46).map (·.size) = some (reqL (mm : Int) (hashK 1)).length) := Lib.hid info46s
            go_wp2_with (first
              | (refine wpList_build_run rfl 44 #[(0, .const (.int .u8 1))] rfl #[(0, .int .u8 1)] (by simp only [List.map_toArray, List.map_cons, List.map_nil]; rfl) _ (built44 1) ?_)
              | (refine wpList_build_run rfl 46 #[(0, .tmp 89), (1, .tmp 90)] rfl #[(0, .int .i64 (mm : Int)), (1, .agg (byteCells (hashK 1)).toArray)] (by simp only [List.map_toArray, List.map_cons, List.map_nil]; rfl) _ (built46 mm 1) ?_))
            refine (ask_vb C1.out.na C1.out.ba 0 (mm : Int) (hashK 1) rfl _ rfl (by omega) (by omega)).mono ?_
            rintro e w10 ⟨rfl, vra, hna, ka, la⟩
            have C2 := Lib.hid (C1.out.stepA hna ka la)
            have GQ2 := Lib.hid (ka.heap GQ1.out (C1.out.na.not_foot GQ1.out (by decide) (by decide) (by decide)))
            have e1 := C2.out.cb
            have rq := Lib.hid (range_of_heap GQ2.out)
            clear hna ka la e0
            dsimp only
            go_wp2_with (refine wpList_load_mid rfl 46 (.tmp 11) rfl gq 0 rfl (reqL (mm : Int) (hashK 1)) _ rq.out Try.underlying46 rfl HI46.out ?_)
            refine (ask_vb C2.out.nb C2.out.bb 0 (mm : Int) (hashK 1) rfl _ rfl (by omega) (by omega)).mono ?_
            rintro e w11 ⟨rfl, vrb, hnb, kb, lb⟩
            have C3 := Lib.hid (C2.out.stepB hnb kb lb)
            have GQ3 := Lib.hid (kb.heap GQ2.out (C2.out.nb.not_foot GQ2.out (by decide) (by decide) (by decide)))
            clear hnb kb lb e1
            dsimp only
            go_wp2_with fail
            go_roundw
            case rel => exact ⟨j + 1, _, _, _, _, by simp, by omega, by omega, C3.out, GQ3.out, HBO.out.both (by rw [HSL.out]; exact hml) 0 (hashK 1), by rw [askS_scr]; exact HSL.out, by rw [askS_n]; omega, by rw [askS_n]; omega, by have := askS_len a 0 (mm : Int) (hashK 1); omega⟩
            case measure => simp [Go.RowKit.intOf]; omega
          · have hmb : ((mm : Int) == (kk : Int)) = false := by rw [beq_eq_false_iff_ne]; omega
            have HMK := Lib.hid hmk
            clear hmk
            go_wp2_with (first
              | (refine wpList_build_run rfl 44 #[(0, .const (.int .u8 1))] rfl #[(0, .int .u8 1)] (by simp only [List.map_toArray, List.map_cons, List.map_nil]; rfl) _ (built44 1) ?_)
              | (refine wpList_build_run rfl 46 #[(0, .tmp 89), (1, .tmp 90)] rfl #[(0, .int .i64 (mm : Int)), (1, .agg (byteCells (hashK 1)).toArray)] (by simp only [List.map_toArray, List.map_cons, List.map_nil]; rfl) _ (built46 mm 1) ?_))
            refine (ask_vb C1.out.na C1.out.ba 0 (mm : Int) (hashK 1) rfl _ rfl (by omega) (by omega)).mono ?_
            rintro e w10 ⟨rfl, vra, hna, ka, la⟩
            have C2 := Lib.hid (C1.out.stepA hna ka la)
            have GQ2 := Lib.hid (ka.heap GQ1.out (C1.out.na.not_foot GQ1.out (by decide) (by decide) (by decide)))
            clear hna ka la e0
            dsimp only
            go_wp2_with fail
            clear hmb
            go_roundw
            case rel => exact ⟨j + 1, _, _, _, _, by simp, by omega, by omega, C2.out, GQ2.out, HBO.out.other HMK.out (by rw [HSL.out]; exact hml) 0 (hashK 1), by rw [askS_scr]; exact HSL.out, by rw [askS_n]; omega, by omega, by have := askS_len a 0 (mm : Int) (hashK 1); omega⟩
            case measure => simp [Go.RowKit.intOf]; omega
        · have h33 : j = 30 := by omega
          subst h33
          clear h30
          go_wp2_with fail
          obtain ⟨D, hD⟩ : ∃ D, D = drain (ofMir kk a.replies) := ⟨_, rfl⟩
          have HD := Lib.hid hD
          have hal : a.replies.length ≤ 60 := by omega
          clear hD
          go_loopw [14] (fun acc wr => CiRel2 W xa xb ra rb ns cc ss va vb kk b D acc wr) (fun _ wr => waitLen wr va)
          case atStart => exact ⟨[], Va1, Vb1, a, none, 0, rfl, HC.out, ⟨rfl, .inl ⟨rfl, rfl⟩⟩, (fun q hq => by cases hq), by rw [HD.out]; rfl, by simpa using hal⟩
          case round =>
            obtain ⟨X, Va2, Vb2, a2, s, d, rfl, hca, ho, hap, hx, hlen⟩ := hrel
            obtain ⟨m, hm⟩ : ∃ m, m = X.length := ⟨_, rfl⟩
            rw [← hm] at ho hap hlen ⊢
            have HC2 := Lib.hid hca
            have HO := Lib.hid ho
            have HAP := Lib.hid hap
            have HX := Lib.hid hx
            have HM := Lib.hid hm
            have e0 := hca.ca
            obtain ⟨wl, hwl⟩ : ∃ k, k = a2.replies.length := ⟨_, rfl⟩
            have hwl2 : ((a2.replies.length : Nat) : Int) = (wl : Int) := by rw [hwl]
            have HWL := Lib.hid hwl2
            rw [← hwl] at hlen
            have m100 : (m : Int) < 100 := by omega
            by_cases hem : a2.replies = []
            · have hw0 : wl = 0 := by rw [hwl, hem]; rfl
              have hXD : X = D := by
                have := HX.out
                rw [hem] at this
                rw [← this]
                simp [ofMir, drain_nil]
              have HXD := Lib.hid hXD
              have HW0 : Hid (((a2.replies.length : Nat) : Int) = 0) := Lib.hid (by rw [hem]; rfl)
              clear hca ho hap hx hm hwl hwl2 hem hw0 hXD HX HWL
              go_wp2_with fail
              refine (waiting_vb HC2.out.na HC2.out.ba 0 HW0.out).mono ?_
              rintro e w' ⟨rfl, rfl⟩
              clear e0
              dsimp only
              go_wp2_with fail
              go_loopw [17] (fun i wr => CiRel3 W xa xb ra rb ns cc ss va vb kk a2 X (.slice s m d) i wr) (fun i _ => m - (Go.RowKit.intOf i).toNat)
              case atStart => exact ⟨0, Va2, Vb2, b, ofMir kk a.replies, rfl, Nat.zero_le _, HC2.out, by rw [← HM.out]; exact HO.out, HAP.out, HBO.out.co, by rw [HXD.out, HD.out]; rfl⟩
              case round =>
                obtain ⟨i3, Va3, Vb3, b3, F, rfl, hi3, hca3, ho3, hap3, hco3, hdr3⟩ := hrel
                rw [← HM.out] at hi3 ho3
                have HC3 := Lib.hid hca3
                have HO3 := Lib.hid ho3
                have HAP3 := Lib.hid hap3
                have HCO3 := Lib.hid hco3
                have HDR3 := Lib.hid hdr3
                have e1 := hca3.cb
                clear hca3 ho3 hap3 hco3 hdr3
                by_cases hlt3 : i3 < m
                · obtain ⟨f, hf⟩ : ∃ f, X[i3]? = some f := ⟨_, List.getElem?_eq_getElem (by rw [← HM.out]; exact hlt3)⟩
                  obtain ⟨hflt, hfe⟩ := List.getElem?_eq_some_iff.1 hf
                  have hdc : drain F = f :: X.drop (i3 + 1) := by rw [HDR3.out, ← hfe]; exact (List.getElem_cons_drop hflt).symm
                  obtain ⟨hF1, hF2⟩ := drain_cons hdc
                  obtain ⟨r, hr⟩ := HCO3.out.at hF1
                  obtain ⟨hat, hbb, hmi⟩ := HCO3.out.each _ f r hF1 hr
                  have hki := HCO3.out.kIdx
                  have hne : b3.replies ≠ [] := by rintro e; rw [e] at hr; simp at hr
                  have hnr : nextR b3 = r := by unfold nextR; rw [← hki, hr]
                  have hnb : nextB b3 = true := (nextB_iff b3).2 hne
                  obtain ⟨gx, hgx, hx2, hx3⟩ := rps_at HO3.out hf hlt3
                  rw [hat] at hx2
                  rw [hbb] at hx3
                  obtain ⟨num, mir, att, tx⟩ := r
                  dsimp only at hx2 hx3 hmi
                  subst hmi
                  have HGX := Lib.hid hgx
                  have X2 := Lib.hid hx2
                  have X3 := Lib.hid hx3
                  have NXT := Lib.hid (next_vb HC3.out.nb HC3.out.bb ⟨num, kk, att, tx⟩ true hnr hnb)
                  have CO4 : Hid (Corr kk (F.eraseIdx (kIdx F)) (nextS b3).replies) := Lib.hid (by
                    show Corr kk _ (b3.replies.eraseIdx (kIdx b3.replies))
                    rw [← hki]
                    exact HCO3.out.erase _)
                  have DR4 := Lib.hid hF2
                  have i0 : (0 : Int) ≤ (i3 : Int) := by omega
                  have i1 : (i3 : Int) < (m : Int) := by omega
                  clear hf hflt hfe hdc hF1 hF2 hr hat hbb hki hne hnr hnb hgx hx2 hx3
                  go_wp2_with fail
                  refine NXT.out.mono ?_
                  rintro e w20 ⟨rfl, vrb, hnb, kb, lb⟩
                  have C4 := Lib.hid (HC3.out.stepB hnb kb lb)
                  have O4 := Lib.hid (kb.own HO3.out fun q hq hf => (HAP3.out q hq).2 (NV.foot_dom hf))
                  have AP4 := Lib.hid (HAP3.out.stepB lb fun q hq => (ownsRow_block HO3.out hq).2.1)
                  have nfx : ¬ Vb3.foot gx := fun hf => by
                    obtain ⟨g, e, hb, _⟩ := own_cells HO3.out (by omega)
                    rw [HGX.out] at e
                    cases e
                    exact (HAP3.out gx hb).2 (NV.foot_dom hf)
                  have Y2 := Lib.hid (kb.cell X2.out nfx)
                  have Y3 := Lib.hid (kb.cell X3.out nfx)
                  clear hnb kb lb nfx e1
                  dsimp only
                  obtain ⟨rv, hrv⟩ : ∃ x, x = rpV ⟨num, (kk : Int), att, tx⟩ := ⟨_, rfl⟩
                  rw [← hrv]
                  have HRV := Lib.hid hrv
                  clear hrv
                  go_wp2_with (first
                    | (refine wpList_alloc50 rfl rfl ?_; intro gr w21 z21 hz21 hg21 eg21 sg21 k21; have HZ21 := Lib.hid hz21; have HG21 := Lib.hid hg21; have EG21 := Lib.hid eg21; have K21 := Lib.hid k21; clear hz21 hg21 eg21 sg21 k21)
                    | (refine wpList_store50 rfl (.tmp 18) (.tmp 135) rfl gr ⟨num, (kk : Int), att, tx⟩ rfl HRV.out z21 HG21.out HZ21.out ?_; intro w22 hg22 k22; have K22 := Lib.hid ((K21.out.zero.trans k22 fun q h => .inl h : Kp (fun q => q = gr) w20 w22).mono (G := fun _ => False) (fun q h => .inr (by have := EG21.out; omega))); have HG22 := Lib.hid hg22; clear hg22 k22))
                  have C5 := Lib.hid (C4.out.keep0 K22.out)
                  have O5 := Lib.hid (K22.out.own O4.out fun _ _ h => h)
                  have Z2 := Lib.hid (K22.out.cell Y2.out (fun h => h))
                  have Z3 := Lib.hid (K22.out.cell Y3.out (fun h => h))
                  have HSQ := HGX.out
                  subst HSQ
                  refine wp_region_held_drew (S := Kp (fun _ => False) w22) (by kernel_rfl) (Kp.drew _ _) (fun hHeld => ?_)
                  refine wpAnyH_take (i := 0) (v := ?v1) rfl (by kernel_rfl) (by kernel_rfl) (by kernel_rfl) (fun _ _ _ h => h) (Or.inl ⟨by rfl, ?y1⟩) (by assumption) ?r1
                  case y1 =>
                    intro wq hSw
                    clear hSw
                    go_simp
                    with_reducible rfl
                  simp only [Act.put, List.getElem_toArray, List.getElem_cons_succ, List.getElem_cons_zero, List.setIfInBounds_toArray, List.set_cons_zero, List.set_cons_succ]
                  refine wpAnyH_take (i := 1) (v := ?v2) rfl (by kernel_rfl) (by kernel_rfl) (by kernel_rfl) (fun _ _ _ h => h) (Or.inl ⟨by rfl, ?y2⟩) (by assumption) ?r2
                  case y2 =>
                    intro wq hSw
                    clear hSw
                    go_simp
                    with_reducible rfl
                  simp only [Act.put, List.getElem_toArray, List.getElem_cons_succ, List.getElem_cons_zero, List.setIfInBounds_toArray, List.set_cons_zero, List.set_cons_succ]
                  refine wpAnyH_take (i := 2) (v := ?v3) rfl (by kernel_rfl) (by kernel_rfl) (by kernel_rfl) (fun _ _ _ h => h) (Or.inl ⟨by rfl, ?y3⟩) (by assumption) ?r3
                  case y3 =>
                    intro wq hSw
                    clear hSw
                    go_simp
                    with_reducible rfl
                  simp only [Act.put, List.getElem_toArray, List.getElem_cons_succ, List.getElem_cons_zero, List.setIfInBounds_toArray, List.set_cons_zero, List.set_cons_succ]
                  refine wpAnyH_take (i := 3) (v := ?v4) rfl (by kernel_rfl) (by kernel_rfl) (by kernel_rfl) (fun _ _ _ h => h) (Or.inl ⟨by rfl, ?y4⟩) (by assumption) ?r4
                  case y4 =>
                    intro wq hSw
                    clear hSw
                    go_simp
                    with_reducible rfl
                  simp only [Act.put, List.getElem_toArray, List.getElem_cons_succ, List.getElem_cons_zero, List.setIfInBounds_toArray, List.set_cons_zero, List.set_cons_succ]
                  refine wpAnyH_take (i := 4) (v := ?v5) rfl (by kernel_rfl) (by kernel_rfl) (by kernel_rfl) (fun _ _ _ h => h) (Or.inl ⟨by rfl, ?y5⟩) (by assumption) ?r5
                  case y5 =>
                    intro wq hSw
                    have q0 : wq.cell? ⟨gr, 2, none⟩ = some (.int .i64 att) := cell_of_row _ _ 2 _ _ _ (hSw.heap HG22.out (fun h => h))
                    clear hSw
                    go_simp
                    with_reducible rfl
                  simp only [Act.put, List.getElem_toArray, List.getElem_cons_succ, List.getElem_cons_zero, List.setIfInBounds_toArray, List.set_cons_zero, List.set_cons_succ]
                  refine wpAnyH_take (i := 5) (v := ?v6) rfl (by kernel_rfl) (by kernel_rfl) (by kernel_rfl) (fun _ _ _ h => h) (Or.inl ⟨by rfl, ?y6⟩) (by assumption) ?r6
                  case y6 =>
                    intro wq hSw
                    clear hSw
                    go_simp
                    with_reducible rfl
                  simp only [Act.put, List.getElem_toArray, List.getElem_cons_succ, List.getElem_cons_zero, List.setIfInBounds_toArray, List.set_cons_zero, List.set_cons_succ]
                  refine wpAnyH_take (i := 6) (v := ?v7) rfl (by kernel_rfl) (by kernel_rfl) (by kernel_rfl) (fun _ _ _ h => h) (Or.inl ⟨by rfl, ?y7⟩) (by assumption) ?r7
                  case y7 =>
                    intro wq hSw
                    clear hSw
                    go_simp
                    with_reducible rfl
                  simp only [Act.put, List.getElem_toArray, List.getElem_cons_succ, List.getElem_cons_zero, List.setIfInBounds_toArray, List.set_cons_zero, List.set_cons_succ]
                  refine wpAnyH_take (i := 7) (v := ?v8) rfl (by kernel_rfl) (by kernel_rfl) (by kernel_rfl) (fun _ _ _ h => h) (Or.inl ⟨by rfl, ?y8⟩) (by assumption) ?r8
                  case y8 =>
                    intro wq hSw
                    clear hSw
                    go_simp
                    with_reducible rfl
                  simp only [Act.put, List.getElem_toArray, List.getElem_cons_succ, List.getElem_cons_zero, List.setIfInBounds_toArray, List.set_cons_zero, List.set_cons_succ]
                  refine wpAnyH_take (i := 8) (v := ?v9) rfl (by kernel_rfl) (by kernel_rfl) (by kernel_rfl) (fun _ _ _ h => h) (Or.inl ⟨by rfl, ?y9⟩) (by assumption) ?r9
                  case y9 =>
                    intro wq hSw
                    clear hSw
                    go_simp
                    with_reducible rfl
                  simp only [Act.put, List.getElem_toArray, List.getElem_cons_succ, List.getElem_cons_zero, List.setIfInBounds_toArray, List.set_cons_zero, List.set_cons_succ]
                  refine wpAnyH_take (i := 9) (v := ?v10) rfl (by kernel_rfl) (by kernel_rfl) (by kernel_rfl) (fun _ _ _ h => h) (Or.inl ⟨by rfl, ?y10⟩) (by assumption) ?r10
                  case y10 =>
                    intro wq hSw
                    have q0 := hSw.cell Z2.out (fun h => h)
                    clear hSw
                    go_simp
                    with_reducible rfl
                  simp only [Act.put, List.getElem_toArray, List.getElem_cons_succ, List.getElem_cons_zero, List.setIfInBounds_toArray, List.set_cons_zero, List.set_cons_succ]
                  refine wpAnyH_take (i := 10) (v := ?v11) rfl (by kernel_rfl) (by kernel_rfl) (by kernel_rfl) (fun _ _ _ h => h) (Or.inl ⟨by rfl, ?y11⟩) (by assumption) ?r11
                  case y11 =>
                    intro wq hSw
                    clear hSw
                    go_simp
                    with_reducible rfl
                  simp only [Act.put, List.getElem_toArray, List.getElem_cons_succ, List.getElem_cons_zero, List.setIfInBounds_toArray, List.set_cons_zero, List.set_cons_succ]
                  refine wpAnyH_take (i := 11) (v := ?v12) rfl (by kernel_rfl) (by kernel_rfl) (by kernel_rfl) (fun _ _ _ h => h) (Or.inl ⟨by rfl, ?y12⟩) (by assumption) ?r12
                  case y12 =>
                    intro wq hSw
                    clear hSw
                    go_simp
                    with_reducible rfl
                  simp only [Act.put, List.getElem_toArray, List.getElem_cons_succ, List.getElem_cons_zero, List.setIfInBounds_toArray, List.set_cons_zero, List.set_cons_succ]
                  refine wpAnyH_take (i := 12) (v := ?v13) rfl (by kernel_rfl) (by kernel_rfl) (by kernel_rfl) (fun _ _ _ h => h) (Or.inl ⟨by rfl, ?y13⟩) (by assumption) ?r13
                  case y13 =>
                    intro wq hSw
                    clear hSw
                    go_simp
                    with_reducible rfl
                  simp only [Act.put, List.getElem_toArray, List.getElem_cons_succ, List.getElem_cons_zero, List.setIfInBounds_toArray, List.set_cons_zero, List.set_cons_succ]
                  refine wpAnyH_take (i := 13) (v := ?v14) rfl (by kernel_rfl) (by kernel_rfl) (by kernel_rfl) (fun _ _ _ h => h) (Or.inl ⟨by rfl, ?y14⟩) (by assumption) ?r14
                  case y14 =>
                    intro wq hSw
                    clear hSw
                    go_simp
                    with_reducible rfl
                  simp only [Act.put, List.getElem_toArray, List.getElem_cons_succ, List.getElem_cons_zero, List.setIfInBounds_toArray, List.set_cons_zero, List.set_cons_succ]
                  refine wpAnyH_take (i := 14) (v := ?v15) rfl (by kernel_rfl) (by kernel_rfl) (by kernel_rfl) (fun _ _ _ h => h) (Or.inl ⟨by rfl, ?y15⟩) (by assumption) ?r15
                  case y15 =>
                    intro wq hSw
                    have q0 : wq.cell? ⟨gr, 3, none⟩ = some (.string tx) := cell_of_row _ _ 3 _ _ _ (hSw.heap HG22.out (fun h => h))
                    clear hSw
                    go_simp
                    with_reducible rfl
                  simp only [Act.put, List.getElem_toArray, List.getElem_cons_succ, List.getElem_cons_zero, List.setIfInBounds_toArray, List.set_cons_zero, List.set_cons_succ]
                  refine wpAnyH_take (i := 15) (v := ?v16) rfl (by kernel_rfl) (by kernel_rfl) (by kernel_rfl) (fun _ _ _ h => h) (Or.inl ⟨by rfl, ?y16⟩) (by assumption) ?r16
                  case y16 =>
                    intro wq hSw
                    clear hSw
                    go_simp
                    with_reducible rfl
                  simp only [Act.put, List.getElem_toArray, List.getElem_cons_succ, List.getElem_cons_zero, List.setIfInBounds_toArray, List.set_cons_zero, List.set_cons_succ]
                  refine wpAnyH_take (i := 16) (v := ?v17) rfl (by kernel_rfl) (by kernel_rfl) (by kernel_rfl) (fun _ _ _ h => h) (Or.inl ⟨by rfl, ?y17⟩) (by assumption) ?r17
                  case y17 =>
                    intro wq hSw
                    clear hSw
                    go_simp
                    with_reducible rfl
                  simp only [Act.put, List.getElem_toArray, List.getElem_cons_succ, List.getElem_cons_zero, List.setIfInBounds_toArray, List.set_cons_zero, List.set_cons_succ]
                  refine wpAnyH_take (i := 17) (v := ?v18) rfl (by kernel_rfl) (by kernel_rfl) (by kernel_rfl) (fun _ _ _ h => h) (Or.inl ⟨by rfl, ?y18⟩) (by assumption) ?r18
                  case y18 =>
                    intro wq hSw
                    clear hSw
                    go_simp
                    with_reducible rfl
                  simp only [Act.put, List.getElem_toArray, List.getElem_cons_succ, List.getElem_cons_zero, List.setIfInBounds_toArray, List.set_cons_zero, List.set_cons_succ]
                  refine wpAnyH_take (i := 18) (v := ?v19) rfl (by kernel_rfl) (by kernel_rfl) (by kernel_rfl) (fun _ _ _ h => h) (Or.inl ⟨by rfl, ?y19⟩) (by assumption) ?r19
                  case y19 =>
                    intro wq hSw
                    clear hSw
                    go_simp
                    with_reducible rfl
                  simp only [Act.put, List.getElem_toArray, List.getElem_cons_succ, List.getElem_cons_zero, List.setIfInBounds_toArray, List.set_cons_zero, List.set_cons_succ]
                  refine wpAnyH_take (i := 19) (v := ?v20) rfl (by kernel_rfl) (by kernel_rfl) (by kernel_rfl) (fun _ _ _ h => h) (Or.inl ⟨by rfl, ?y20⟩) (by assumption) ?r20
                  case y20 =>
                    intro wq hSw
                    have q0 := hSw.cell Z3.out (fun h => h)
                    clear hSw
                    go_simp
                    with_reducible rfl
                  simp only [Act.put, List.getElem_toArray, List.getElem_cons_succ, List.getElem_cons_zero, List.setIfInBounds_toArray, List.set_cons_zero, List.set_cons_succ]
                  refine wpAnyH_take (i := 20) (v := ?v21) rfl (by kernel_rfl) (by kernel_rfl) (by kernel_rfl) (fun _ _ _ h => h) (Or.inl ⟨by rfl, ?y21⟩) (by assumption) ?r21
                  case y21 =>
                    intro wq hSw
                    clear hSw
                    go_simp
                    with_reducible rfl
                  simp only [Act.put, List.getElem_toArray, List.getElem_cons_succ, List.getElem_cons_zero, List.setIfInBounds_toArray, List.set_cons_zero, List.set_cons_succ]
                  refine wpAnyH_take (i := 21) (v := ?v22) rfl (by kernel_rfl) (by kernel_rfl) (by kernel_rfl) (fun _ _ _ h => h) (Or.inl ⟨by rfl, ?y22⟩) (by assumption) ?r22
                  case y22 =>
                    intro wq hSw
                    clear hSw
                    go_simp
                    with_reducible rfl
                  simp only [Act.put, List.getElem_toArray, List.getElem_cons_succ, List.getElem_cons_zero, List.setIfInBounds_toArray, List.set_cons_zero, List.set_cons_succ]
                  refine wpAnyH_take (i := 22) (v := ?v23) rfl (by kernel_rfl) (by kernel_rfl) (by kernel_rfl) (fun _ _ _ h => h) (Or.inl ⟨by rfl, ?y23⟩) (by assumption) ?r23
                  case y23 =>
                    intro wq hSw
                    clear hSw
                    go_simp
                    with_reducible rfl
                  simp only [Act.put, List.getElem_toArray, List.getElem_cons_succ, List.getElem_cons_zero, List.setIfInBounds_toArray, List.set_cons_zero, List.set_cons_succ]
                  refine wpAnyH_take (i := 23) (v := ?v24) rfl (by kernel_rfl) (by kernel_rfl) (by kernel_rfl) (fun _ _ _ h => h) (Or.inl ⟨by rfl, ?y24⟩) (by assumption) ?r24
                  case y24 =>
                    intro wq hSw
                    clear hSw
                    go_simp
                    with_reducible rfl
                  simp only [Act.put, List.getElem_toArray, List.getElem_cons_succ, List.getElem_cons_zero, List.setIfInBounds_toArray, List.set_cons_zero, List.set_cons_succ]
                  refine wpAnyH_take (i := 24) (v := ?v25) rfl (by kernel_rfl) (by kernel_rfl) (by kernel_rfl) (fun _ _ _ h => h) (Or.inl ⟨by rfl, ?y25⟩) (by assumption) ?r25
                  case y25 =>
                    intro wq hSw
                    have q0 : wq.cell? ⟨gr, 1, none⟩ = some (.int .i64 (kk : Int)) := cell_of_row _ _ 1 _ _ _ (hSw.heap HG22.out (fun h => h))
                    clear hSw
                    go_simp
                    with_reducible rfl
                  simp only [Act.put, List.getElem_toArray, List.getElem_cons_succ, List.getElem_cons_zero, List.setIfInBounds_toArray, List.set_cons_zero, List.set_cons_succ]
                  refine wpAnyH_take (i := 25) (v := ?v26) rfl (by kernel_rfl) (by kernel_rfl) (by kernel_rfl) (fun _ _ _ h => h) (Or.inl ⟨by rfl, ?y26⟩) (by assumption) ?r26
                  case y26 =>
                    intro wq hSw
                    clear hSw
                    go_simp
                    with_reducible rfl
                  simp only [Act.put, List.getElem_toArray, List.getElem_cons_succ, List.getElem_cons_zero, List.setIfInBounds_toArray, List.set_cons_zero, List.set_cons_succ]
                  refine wpAnyH_take (i := 26) (v := ?v27) rfl (by kernel_rfl) (by kernel_rfl) (by kernel_rfl) (fun _ _ _ h => h) (Or.inl ⟨by rfl, ?y27⟩) (by assumption) ?r27
                  case y27 =>
                    intro wq hSw
                    clear hSw
                    go_simp
                    with_reducible rfl
                  simp only [Act.put, List.getElem_toArray, List.getElem_cons_succ, List.getElem_cons_zero, List.setIfInBounds_toArray, List.set_cons_zero, List.set_cons_succ]
                  refine wpAnyH_take (i := 27) (v := ?v28) rfl (by kernel_rfl) (by kernel_rfl) (by kernel_rfl) (fun _ _ _ h => h) (Or.inl ⟨by rfl, ?y28⟩) (by assumption) ?r28
                  case y28 =>
                    intro wq hSw
                    clear hSw
                    go_simp
                    with_reducible rfl
                  simp only [Act.put, List.getElem_toArray, List.getElem_cons_succ, List.getElem_cons_zero, List.setIfInBounds_toArray, List.set_cons_zero, List.set_cons_succ]
                  refine wpAnyH_done (by kernel_rfl) ?_ _
                  clear hHeld
                  go_wp2_with fail
                  go_roundw
                  case rel => exact ⟨i3 + 1, _, _, _, _, by simp, by rw [← HM.out]; omega, C5.out.keep0 (Kp.drew _ _), by rw [← HM.out]; exact (Kp.drew (fun _ => False) _).own O5.out fun _ _ h => h, AP4.out, CO4.out, DR4.out⟩
                  case measure => simp [Go.RowKit.intOf]; omega
                · have him : i3 = m := by omega
                  have hF0 : F = [] := drain_empty (by rw [HDR3.out, him, HM.out, List.drop_length])
                  have hB0 : ((b3.replies.length : Nat) : Int) = 0 := by rw [← HCO3.out.len, hF0]; rfl
                  have HB3 := Lib.hid hB0
                  subst him
                  clear hF0 hB0
                  go_wp2_with fail
                  refine (waiting_vb HC3.out.nb HC3.out.bb 0 HB3.out).mono ?_
                  rintro e w' ⟨rfl, rfl⟩
                  dsimp only
                  go_wp2_with fail
                  go_ret
                  exact ⟨rfl, HC3.out.k⟩
            · have hnb := (nextB_iff a2).2 hem
              obtain ⟨r, hr, _⟩ := kIdx_spec a2.replies hem
              have hnr : nextR a2 = r := by unfold nextR; rw [hr]
              have hpos : 0 < a2.replies.length := List.length_pos_iff.2 hem
              have hwl0 : (0 : Int) < (wl : Int) := by omega
              have NXT := Lib.hid (next_vb HC2.out.na HC2.out.ba r true hnr hnb)
              have hwm : waitLen wr va = wl := by rw [← HC2.out.ba, waitLen_eq HC2.out.na, hwl]
              have HWM2 := Lib.hid hwm
              have HEM := Lib.hid hr
              have hnl : (nextS a2).replies.length = wl - 1 := by rw [nextS_len, hwl]
              have HNL := Lib.hid hnl
              clear hca ho hap hx hm hwl hwl2 hnr hnb hem hwm hnl hpos
              go_wp2_with fail
              refine (waiting_vb HC2.out.na HC2.out.ba (wl : Int) HWL.out).mono ?_
              rintro e w' ⟨rfl, rfl⟩
              dsimp only
              go_wp2_with fail
              refine NXT.out.mono ?_
              rintro e w12 ⟨rfl, vra, hna, ka, la⟩
              have C4 := Lib.hid (HC2.out.stepA hna ka la)
              have O4 := Lib.hid (ka.own HO.out fun q hq hf => (HAP.out q hq).1 (NV.foot_dom hf))
              have AP4 := Lib.hid (HAP.out.stepA la fun q hq => (ownsRow_block HO.out hq).2.1)
              clear hna ka la e0
              dsimp only
              obtain ⟨rv, hrv⟩ : ∃ x, x = rpV r := ⟨_, rfl⟩
              rw [← hrv]
              have HRV := Lib.hid hrv
              clear hrv
              go_upto_region 20 with (first
                | (refine wpList_alloc50 rfl rfl ?_; intro gr w13 z13 hz13 hg13 eg13 sg13 k13; have HZ13 := Lib.hid hz13; have HG13 := Lib.hid hg13; have EG13 := Lib.hid eg13; have K13 := Lib.hid k13; clear hz13 hg13 eg13 sg13 k13)
                | (refine wpList_store50 rfl (.tmp 15) (.tmp 113) rfl gr r rfl HRV.out z13 HG13.out HZ13.out ?_; intro w14 hg14 k14; have K14 := Lib.hid ((K13.out.zero.trans k14 fun q h => .inl h : Kp (fun q => q = gr) w12 w14).mono (G := fun _ => False) (fun q h => .inr (by have := EG13.out; omega))); have HG14 := Lib.hid hg14; clear hg14 k14))
              have C5 := Lib.hid (C4.out.keep0 K14.out)
              have O5 := Lib.hid (K14.out.own O4.out fun _ _ h => h)
              obtain ⟨a0, a1, a2', a3, _⟩ := rp4 (m := r) HG14.out
              by_cases hmk : r.mir = (kk : Int)
              · have hmb : (r.mir == (kk : Int)) = true := by rw [hmk]; exact beq_self_eq_true _
                have HIN := Lib.hid (drain_in HEM.out hmk)
                clear hmk
                go_wp2_with (first
                  | (refine wpList_append_src _ rfl (.tmp 121) (.tmp 123) 61 rfl W.heap.size 50 i50 (.agg #[.int .i64 0, .int .i64 0, .int .i64 0, .string emptyS]) 4 40 Try.underlying61 hi50 hza hzb hzc rfl (by decide) (.slice s m d) m (rps X) rfl ((Kp.alloc (fun _ => False) w14 _).own O5.out fun _ _ h => h) (some ⟨w14.heap.size, 0, none⟩) 1 1 (rpCells r) rfl (Src.one w14 50 4 (rpCells r) rfl) (rpCells_one r) (by unfold maxLen; omega) (by omega) (by have := C5.out.k.size; simp; omega) ?_; intro v15 w15 own15 grow15 loc15; obtain ⟨s15, d15, hv15, _, _, _, _⟩ := Src.of_own own15; subst hv15; have O15 := Lib.hid own15; have K15 := Lib.hid (((Kp.alloc (fun _ => False) w14 (.cells #[.int .i64 r.num, .int .i64 r.mir, .int .i64 r.at', .string r.b] 50)).zero (F := fun q => (Value.slice s m d).ownBlock = some q)).trans (Kp.grown (F := fun q => (Value.slice s m d).ownBlock = some q) grow15 fun q hq => hq) fun q hq => .inl hq); have L15 := Lib.hid loc15; clear own15 grow15 loc15))
                have C15 := C5.out.keepF K15.out (fun q hd hq => (AP4.out q hq).1 hd) (fun q hd hq => (AP4.out q hq).2 hd) (fun hq => other_type O5.out C5.out.xa (by decide) hq) (fun hq => other_type O5.out C5.out.xb (by decide) hq) (fun hq => by obtain ⟨cs, h1, _⟩ := C5.out.ro; exact other_type O5.out h1 (by decide) hq) (fun q hq => (ownsRow_block O5.out hq).1)
                have AP15 : Apart (.slice s15 (m + 1) d15) { Va2 with vr := vra } Vb2 := fun q hq => by
                  rcases L15.out with h | h
                  · exact AP4.out q (by rw [← h]; exact hq)
                  · rw [hq] at h
                    have e := Option.some.inj h
                    have hsz : w14.heap.size ≤ q := by rw [e]; simp
                    exact ⟨fun hd => by have := (C5.out.na.dom_lt hd).2; omega, fun hd => by have := (C5.out.nb.dom_lt hd).2; omega⟩
                have hX2 : X ++ [r] ++ drain (ofMir kk (nextS a2).replies) = D := by
                  rw [← HX.out, HIN.out, List.append_assoc]
                  rfl
                have hmeas : waitLen w15 va < waitLen wr va := by
                  rw [HWM2.out]
                  have := waitLen_eq C15.na
                  have e2 : ({ Va2 with vr := vra } : NV).b = va := C15.ba
                  rw [e2, HNL.out] at this
                  omega
                have hO15 : w15.ownsRow W.heap.size 50 4 (.slice s15 (X ++ [r]).length d15) (X ++ [r]).length (rps (X ++ [r])) := by
                  rw [List.length_append, List.length_singleton, ← HM.out, rps_append]
                  exact O15.out
                have hlen2 : (X ++ [r]).length = m + 1 := by rw [List.length_append, List.length_singleton, ← HM.out]
                clear a0 a1 a2' a3 hmb
                go_roundw
                case rel => exact ⟨X ++ [r], _, _, _, s15, d15, by rw [hlen2], C15, hO15, by rw [hlen2]; exact AP15, hX2, by rw [hlen2, HNL.out]; omega⟩
                case measure => exact hmeas
              · have hmb : (r.mir == (kk : Int)) = false := by rw [beq_eq_false_iff_ne]; exact hmk
                have HOUT := Lib.hid (drain_out HEM.out hmk)
                clear hmk
                go_wp2_with fail
                clear a0 a1 a2' a3 hmb
                have hmeas : waitLen w14 va < waitLen wr va := by
                  rw [HWM2.out]
                  have := waitLen_eq C5.out.na
                  have e2 : ({ Va2 with vr := vra } : NV).b = va := C5.out.ba
                  rw [e2, HNL.out] at this
                  omega
                go_roundw
                case rel => exact ⟨X, _, _, _, s, d, by rw [← HM.out], C5.out, by rw [← HM.out]; exact O5.out, by rw [← HM.out]; exact AP4.out, by rw [show (nextS a2).replies = a2.replies.eraseIdx (kIdx a2.replies) from rfl, HOUT.out]; exact HX.out, by rw [← HM.out, HNL.out]; omega⟩
                case measure => exact hmeas
      · have hjn : j = n := by omega
        subst hjn
        go_wp2_with fail
        obtain ⟨D, hD⟩ : ∃ D, D = drain (ofMir kk a.replies) := ⟨_, rfl⟩
        have HD := Lib.hid hD
        have hal : a.replies.length ≤ 60 := by omega
        clear hD
        go_loopw [14] (fun acc wr => CiRel2 W xa xb ra rb ns cc ss va vb kk b D acc wr) (fun _ wr => waitLen wr va)
        case atStart => exact ⟨[], Va1, Vb1, a, none, 0, rfl, HC.out, ⟨rfl, .inl ⟨rfl, rfl⟩⟩, (fun q hq => by cases hq), by rw [HD.out]; rfl, by simpa using hal⟩
        case round =>
          obtain ⟨X, Va2, Vb2, a2, s, d, rfl, hca, ho, hap, hx, hlen⟩ := hrel
          obtain ⟨m, hm⟩ : ∃ m, m = X.length := ⟨_, rfl⟩
          rw [← hm] at ho hap hlen ⊢
          have HC2 := Lib.hid hca
          have HO := Lib.hid ho
          have HAP := Lib.hid hap
          have HX := Lib.hid hx
          have HM := Lib.hid hm
          have e0 := hca.ca
          obtain ⟨wl, hwl⟩ : ∃ k, k = a2.replies.length := ⟨_, rfl⟩
          have hwl2 : ((a2.replies.length : Nat) : Int) = (wl : Int) := by rw [hwl]
          have HWL := Lib.hid hwl2
          rw [← hwl] at hlen
          have m100 : (m : Int) < 100 := by omega
          by_cases hem : a2.replies = []
          · have hw0 : wl = 0 := by rw [hwl, hem]; rfl
            have hXD : X = D := by
              have := HX.out
              rw [hem] at this
              rw [← this]
              simp [ofMir, drain_nil]
            have HXD := Lib.hid hXD
            have HW0 : Hid (((a2.replies.length : Nat) : Int) = 0) := Lib.hid (by rw [hem]; rfl)
            clear hca ho hap hx hm hwl hwl2 hem hw0 hXD HX HWL
            go_wp2_with fail
            refine (waiting_vb HC2.out.na HC2.out.ba 0 HW0.out).mono ?_
            rintro e w' ⟨rfl, rfl⟩
            clear e0
            dsimp only
            go_wp2_with fail
            go_loopw [17] (fun i wr => CiRel3 W xa xb ra rb ns cc ss va vb kk a2 X (.slice s m d) i wr) (fun i _ => m - (Go.RowKit.intOf i).toNat)
            case atStart => exact ⟨0, Va2, Vb2, b, ofMir kk a.replies, rfl, Nat.zero_le _, HC2.out, by rw [← HM.out]; exact HO.out, HAP.out, HBO.out.co, by rw [HXD.out, HD.out]; rfl⟩
            case round =>
              obtain ⟨i3, Va3, Vb3, b3, F, rfl, hi3, hca3, ho3, hap3, hco3, hdr3⟩ := hrel
              rw [← HM.out] at hi3 ho3
              have HC3 := Lib.hid hca3
              have HO3 := Lib.hid ho3
              have HAP3 := Lib.hid hap3
              have HCO3 := Lib.hid hco3
              have HDR3 := Lib.hid hdr3
              have e1 := hca3.cb
              clear hca3 ho3 hap3 hco3 hdr3
              by_cases hlt3 : i3 < m
              · obtain ⟨f, hf⟩ : ∃ f, X[i3]? = some f := ⟨_, List.getElem?_eq_getElem (by rw [← HM.out]; exact hlt3)⟩
                obtain ⟨hflt, hfe⟩ := List.getElem?_eq_some_iff.1 hf
                have hdc : drain F = f :: X.drop (i3 + 1) := by rw [HDR3.out, ← hfe]; exact (List.getElem_cons_drop hflt).symm
                obtain ⟨hF1, hF2⟩ := drain_cons hdc
                obtain ⟨r, hr⟩ := HCO3.out.at hF1
                obtain ⟨hat, hbb, hmi⟩ := HCO3.out.each _ f r hF1 hr
                have hki := HCO3.out.kIdx
                have hne : b3.replies ≠ [] := by rintro e; rw [e] at hr; simp at hr
                have hnr : nextR b3 = r := by unfold nextR; rw [← hki, hr]
                have hnb : nextB b3 = true := (nextB_iff b3).2 hne
                obtain ⟨gx, hgx, hx2, hx3⟩ := rps_at HO3.out hf hlt3
                rw [hat] at hx2
                rw [hbb] at hx3
                obtain ⟨num, mir, att, tx⟩ := r
                dsimp only at hx2 hx3 hmi
                subst hmi
                have HGX := Lib.hid hgx
                have X2 := Lib.hid hx2
                have X3 := Lib.hid hx3
                have NXT := Lib.hid (next_vb HC3.out.nb HC3.out.bb ⟨num, kk, att, tx⟩ true hnr hnb)
                have CO4 : Hid (Corr kk (F.eraseIdx (kIdx F)) (nextS b3).replies) := Lib.hid (by
                  show Corr kk _ (b3.replies.eraseIdx (kIdx b3.replies))
                  rw [← hki]
                  exact HCO3.out.erase _)
                have DR4 := Lib.hid hF2
                have i0 : (0 : Int) ≤ (i3 : Int) := by omega
                have i1 : (i3 : Int) < (m : Int) := by omega
                clear hf hflt hfe hdc hF1 hF2 hr hat hbb hki hne hnr hnb hgx hx2 hx3
                go_wp2_with fail
                refine NXT.out.mono ?_
                rintro e w20 ⟨rfl, vrb, hnb, kb, lb⟩
                have C4 := Lib.hid (HC3.out.stepB hnb kb lb)
                have O4 := Lib.hid (kb.own HO3.out fun q hq hf => (HAP3.out q hq).2 (NV.foot_dom hf))
                have AP4 := Lib.hid (HAP3.out.stepB lb fun q hq => (ownsRow_block HO3.out hq).2.1)
                have nfx : ¬ Vb3.foot gx := fun hf => by
                  obtain ⟨g, e, hb, _⟩ := own_cells HO3.out (by omega)
                  rw [HGX.out] at e
                  cases e
                  exact (HAP3.out gx hb).2 (NV.foot_dom hf)
                have Y2 := Lib.hid (kb.cell X2.out nfx)
                have Y3 := Lib.hid (kb.cell X3.out nfx)
                clear hnb kb lb nfx e1
                dsimp only
                obtain ⟨rv, hrv⟩ : ∃ x, x = rpV ⟨num, (kk : Int), att, tx⟩ := ⟨_, rfl⟩
                rw [← hrv]
                have HRV := Lib.hid hrv
                clear hrv
                go_wp2_with (first
                  | (refine wpList_alloc50 rfl rfl ?_; intro gr w21 z21 hz21 hg21 eg21 sg21 k21; have HZ21 := Lib.hid hz21; have HG21 := Lib.hid hg21; have EG21 := Lib.hid eg21; have K21 := Lib.hid k21; clear hz21 hg21 eg21 sg21 k21)
                  | (refine wpList_store50 rfl (.tmp 18) (.tmp 135) rfl gr ⟨num, (kk : Int), att, tx⟩ rfl HRV.out z21 HG21.out HZ21.out ?_; intro w22 hg22 k22; have K22 := Lib.hid ((K21.out.zero.trans k22 fun q h => .inl h : Kp (fun q => q = gr) w20 w22).mono (G := fun _ => False) (fun q h => .inr (by have := EG21.out; omega))); have HG22 := Lib.hid hg22; clear hg22 k22))
                have C5 := Lib.hid (C4.out.keep0 K22.out)
                have O5 := Lib.hid (K22.out.own O4.out fun _ _ h => h)
                have Z2 := Lib.hid (K22.out.cell Y2.out (fun h => h))
                have Z3 := Lib.hid (K22.out.cell Y3.out (fun h => h))
                have HSQ := HGX.out
                subst HSQ
                refine wp_region_held_drew (S := Kp (fun _ => False) w22) (by kernel_rfl) (Kp.drew _ _) (fun hHeld => ?_)
                refine wpAnyH_take (i := 0) (v := ?v29) rfl (by kernel_rfl) (by kernel_rfl) (by kernel_rfl) (fun _ _ _ h => h) (Or.inl ⟨by rfl, ?y29⟩) (by assumption) ?r29
                case y29 =>
                  intro wq hSw
                  clear hSw
                  go_simp
                  with_reducible rfl
                simp only [Act.put, List.getElem_toArray, List.getElem_cons_succ, List.getElem_cons_zero, List.setIfInBounds_toArray, List.set_cons_zero, List.set_cons_succ]
                refine wpAnyH_take (i := 1) (v := ?v30) rfl (by kernel_rfl) (by kernel_rfl) (by kernel_rfl) (fun _ _ _ h => h) (Or.inl ⟨by rfl, ?y30⟩) (by assumption) ?r30
                case y30 =>
                  intro wq hSw
                  clear hSw
                  go_simp
                  with_reducible rfl
                simp only [Act.put, List.getElem_toArray, List.getElem_cons_succ, List.getElem_cons_zero, List.setIfInBounds_toArray, List.set_cons_zero, List.set_cons_succ]
                refine wpAnyH_take (i := 2) (v := ?v31) rfl (by kernel_rfl) (by kernel_rfl) (by kernel_rfl) (fun _ _ _ h => h) (Or.inl ⟨by rfl, ?y31⟩) (by assumption) ?r31
                case y31 =>
                  intro wq hSw
                  clear hSw
                  go_simp
                  with_reducible rfl
                simp only [Act.put, List.getElem_toArray, List.getElem_cons_succ, List.getElem_cons_zero, List.setIfInBounds_toArray, List.set_cons_zero, List.set_cons_succ]
                refine wpAnyH_take (i := 3) (v := ?v32) rfl (by kernel_rfl) (by kernel_rfl) (by kernel_rfl) (fun _ _ _ h => h) (Or.inl ⟨by rfl, ?y32⟩) (by assumption) ?r32
                case y32 =>
                  intro wq hSw
                  clear hSw
                  go_simp
                  with_reducible rfl
                simp only [Act.put, List.getElem_toArray, List.getElem_cons_succ, List.getElem_cons_zero, List.setIfInBounds_toArray, List.set_cons_zero, List.set_cons_succ]
                refine wpAnyH_take (i := 4) (v := ?v33) rfl (by kernel_rfl) (by kernel_rfl) (by kernel_rfl) (fun _ _ _ h => h) (Or.inl ⟨by rfl, ?y33⟩) (by assumption) ?r33
                case y33 =>
                  intro wq hSw
                  have q0 : wq.cell? ⟨gr, 2, none⟩ = some (.int .i64 att) := cell_of_row _ _ 2 _ _ _ (hSw.heap HG22.out (fun h => h))
                  clear hSw
                  go_simp
                  with_reducible rfl
                simp only [Act.put, List.getElem_toArray, List.getElem_cons_succ, List.getElem_cons_zero, List.setIfInBounds_toArray, List.set_cons_zero, List.set_cons_succ]
                refine wpAnyH_take (i := 5) (v := ?v34) rfl (by kernel_rfl) (by kernel_rfl) (by kernel_rfl) (fun _ _ _ h => h) (Or.inl ⟨by rfl, ?y34⟩) (by assumption) ?r34
                case y34 =>
                  intro wq hSw
                  clear hSw
                  go_simp
                  with_reducible rfl
                simp only [Act.put, List.getElem_toArray, List.getElem_cons_succ, List.getElem_cons_zero, List.setIfInBounds_toArray, List.set_cons_zero, List.set_cons_succ]
                refine wpAnyH_take (i := 6) (v := ?v35) rfl (by kernel_rfl) (by kernel_rfl) (by kernel_rfl) (fun _ _ _ h => h) (Or.inl ⟨by rfl, ?y35⟩) (by assumption) ?r35
                case y35 =>
                  intro wq hSw
                  clear hSw
                  go_simp
                  with_reducible rfl
                simp only [Act.put, List.getElem_toArray, List.getElem_cons_succ, List.getElem_cons_zero, List.setIfInBounds_toArray, List.set_cons_zero, List.set_cons_succ]
                refine wpAnyH_take (i := 7) (v := ?v36) rfl (by kernel_rfl) (by kernel_rfl) (by kernel_rfl) (fun _ _ _ h => h) (Or.inl ⟨by rfl, ?y36⟩) (by assumption) ?r36
                case y36 =>
                  intro wq hSw
                  clear hSw
                  go_simp
                  with_reducible rfl
                simp only [Act.put, List.getElem_toArray, List.getElem_cons_succ, List.getElem_cons_zero, List.setIfInBounds_toArray, List.set_cons_zero, List.set_cons_succ]
                refine wpAnyH_take (i := 8) (v := ?v37) rfl (by kernel_rfl) (by kernel_rfl) (by kernel_rfl) (fun _ _ _ h => h) (Or.inl ⟨by rfl, ?y37⟩) (by assumption) ?r37
                case y37 =>
                  intro wq hSw
                  clear hSw
                  go_simp
                  with_reducible rfl
                simp only [Act.put, List.getElem_toArray, List.getElem_cons_succ, List.getElem_cons_zero, List.setIfInBounds_toArray, List.set_cons_zero, List.set_cons_succ]
                refine wpAnyH_take (i := 9) (v := ?v38) rfl (by kernel_rfl) (by kernel_rfl) (by kernel_rfl) (fun _ _ _ h => h) (Or.inl ⟨by rfl, ?y38⟩) (by assumption) ?r38
                case y38 =>
                  intro wq hSw
                  have q0 := hSw.cell Z2.out (fun h => h)
                  clear hSw
                  go_simp
                  with_reducible rfl
                simp only [Act.put, List.getElem_toArray, List.getElem_cons_succ, List.getElem_cons_zero, List.setIfInBounds_toArray, List.set_cons_zero, List.set_cons_succ]
                refine wpAnyH_take (i := 10) (v := ?v39) rfl (by kernel_rfl) (by kernel_rfl) (by kernel_rfl) (fun _ _ _ h => h) (Or.inl ⟨by rfl, ?y39⟩) (by assumption) ?r39
                case y39 =>
                  intro wq hSw
                  clear hSw
                  go_simp
                  with_reducible rfl
                simp only [Act.put, List.getElem_toArray, List.getElem_cons_succ, List.getElem_cons_zero, List.setIfInBounds_toArray, List.set_cons_zero, List.set_cons_succ]
                refine wpAnyH_take (i := 11) (v := ?v40) rfl (by kernel_rfl) (by kernel_rfl) (by kernel_rfl) (fun _ _ _ h => h) (Or.inl ⟨by rfl, ?y40⟩) (by assumption) ?r40
                case y40 =>
                  intro wq hSw
                  clear hSw
                  go_simp
                  with_reducible rfl
                simp only [Act.put, List.getElem_toArray, List.getElem_cons_succ, List.getElem_cons_zero, List.setIfInBounds_toArray, List.set_cons_zero, List.set_cons_succ]
                refine wpAnyH_take (i := 12) (v := ?v41) rfl (by kernel_rfl) (by kernel_rfl) (by kernel_rfl) (fun _ _ _ h => h) (Or.inl ⟨by rfl, ?y41⟩) (by assumption) ?r41
                case y41 =>
                  intro wq hSw
                  clear hSw
                  go_simp
                  with_reducible rfl
                simp only [Act.put, List.getElem_toArray, List.getElem_cons_succ, List.getElem_cons_zero, List.setIfInBounds_toArray, List.set_cons_zero, List.set_cons_succ]
                refine wpAnyH_take (i := 13) (v := ?v42) rfl (by kernel_rfl) (by kernel_rfl) (by kernel_rfl) (fun _ _ _ h => h) (Or.inl ⟨by rfl, ?y42⟩) (by assumption) ?r42
                case y42 =>
                  intro wq hSw
                  clear hSw
                  go_simp
                  with_reducible rfl
                simp only [Act.put, List.getElem_toArray, List.getElem_cons_succ, List.getElem_cons_zero, List.setIfInBounds_toArray, List.set_cons_zero, List.set_cons_succ]
                refine wpAnyH_take (i := 14) (v := ?v43) rfl (by kernel_rfl) (by kernel_rfl) (by kernel_rfl) (fun _ _ _ h => h) (Or.inl ⟨by rfl, ?y43⟩) (by assumption) ?r43
                case y43 =>
                  intro wq hSw
                  have q0 : wq.cell? ⟨gr, 3, none⟩ = some (.string tx) := cell_of_row _ _ 3 _ _ _ (hSw.heap HG22.out (fun h => h))
                  clear hSw
                  go_simp
                  with_reducible rfl
                simp only [Act.put, List.getElem_toArray, List.getElem_cons_succ, List.getElem_cons_zero, List.setIfInBounds_toArray, List.set_cons_zero, List.set_cons_succ]
                refine wpAnyH_take (i := 15) (v := ?v44) rfl (by kernel_rfl) (by kernel_rfl) (by kernel_rfl) (fun _ _ _ h => h) (Or.inl ⟨by rfl, ?y44⟩) (by assumption) ?r44
                case y44 =>
                  intro wq hSw
                  clear hSw
                  go_simp
                  with_reducible rfl
                simp only [Act.put, List.getElem_toArray, List.getElem_cons_succ, List.getElem_cons_zero, List.setIfInBounds_toArray, List.set_cons_zero, List.set_cons_succ]
                refine wpAnyH_take (i := 16) (v := ?v45) rfl (by kernel_rfl) (by kernel_rfl) (by kernel_rfl) (fun _ _ _ h => h) (Or.inl ⟨by rfl, ?y45⟩) (by assumption) ?r45
                case y45 =>
                  intro wq hSw
                  clear hSw
                  go_simp
                  with_reducible rfl
                simp only [Act.put, List.getElem_toArray, List.getElem_cons_succ, List.getElem_cons_zero, List.setIfInBounds_toArray, List.set_cons_zero, List.set_cons_succ]
                refine wpAnyH_take (i := 17) (v := ?v46) rfl (by kernel_rfl) (by kernel_rfl) (by kernel_rfl) (fun _ _ _ h => h) (Or.inl ⟨by rfl, ?y46⟩) (by assumption) ?r46
                case y46 =>
                  intro wq hSw
                  clear hSw
                  go_simp
                  with_reducible rfl
                simp only [Act.put, List.getElem_toArray, List.getElem_cons_succ, List.getElem_cons_zero, List.setIfInBounds_toArray, List.set_cons_zero, List.set_cons_succ]
                refine wpAnyH_take (i := 18) (v := ?v47) rfl (by kernel_rfl) (by kernel_rfl) (by kernel_rfl) (fun _ _ _ h => h) (Or.inl ⟨by rfl, ?y47⟩) (by assumption) ?r47
                case y47 =>
                  intro wq hSw
                  clear hSw
                  go_simp
                  with_reducible rfl
                simp only [Act.put, List.getElem_toArray, List.getElem_cons_succ, List.getElem_cons_zero, List.setIfInBounds_toArray, List.set_cons_zero, List.set_cons_succ]
                refine wpAnyH_take (i := 19) (v := ?v48) rfl (by kernel_rfl) (by kernel_rfl) (by kernel_rfl) (fun _ _ _ h => h) (Or.inl ⟨by rfl, ?y48⟩) (by assumption) ?r48
                case y48 =>
                  intro wq hSw
                  have q0 := hSw.cell Z3.out (fun h => h)
                  clear hSw
                  go_simp
                  with_reducible rfl
                simp only [Act.put, List.getElem_toArray, List.getElem_cons_succ, List.getElem_cons_zero, List.setIfInBounds_toArray, List.set_cons_zero, List.set_cons_succ]
                refine wpAnyH_take (i := 20) (v := ?v49) rfl (by kernel_rfl) (by kernel_rfl) (by kernel_rfl) (fun _ _ _ h => h) (Or.inl ⟨by rfl, ?y49⟩) (by assumption) ?r49
                case y49 =>
                  intro wq hSw
                  clear hSw
                  go_simp
                  with_reducible rfl
                simp only [Act.put, List.getElem_toArray, List.getElem_cons_succ, List.getElem_cons_zero, List.setIfInBounds_toArray, List.set_cons_zero, List.set_cons_succ]
                refine wpAnyH_take (i := 21) (v := ?v50) rfl (by kernel_rfl) (by kernel_rfl) (by kernel_rfl) (fun _ _ _ h => h) (Or.inl ⟨by rfl, ?y50⟩) (by assumption) ?r50
                case y50 =>
                  intro wq hSw
                  clear hSw
                  go_simp
                  with_reducible rfl
                simp only [Act.put, List.getElem_toArray, List.getElem_cons_succ, List.getElem_cons_zero, List.setIfInBounds_toArray, List.set_cons_zero, List.set_cons_succ]
                refine wpAnyH_take (i := 22) (v := ?v51) rfl (by kernel_rfl) (by kernel_rfl) (by kernel_rfl) (fun _ _ _ h => h) (Or.inl ⟨by rfl, ?y51⟩) (by assumption) ?r51
                case y51 =>
                  intro wq hSw
                  clear hSw
                  go_simp
                  with_reducible rfl
                simp only [Act.put, List.getElem_toArray, List.getElem_cons_succ, List.getElem_cons_zero, List.setIfInBounds_toArray, List.set_cons_zero, List.set_cons_succ]
                refine wpAnyH_take (i := 23) (v := ?v52) rfl (by kernel_rfl) (by kernel_rfl) (by kernel_rfl) (fun _ _ _ h => h) (Or.inl ⟨by rfl, ?y52⟩) (by assumption) ?r52
                case y52 =>
                  intro wq hSw
                  clear hSw
                  go_simp
                  with_reducible rfl
                simp only [Act.put, List.getElem_toArray, List.getElem_cons_succ, List.getElem_cons_zero, List.setIfInBounds_toArray, List.set_cons_zero, List.set_cons_succ]
                refine wpAnyH_take (i := 24) (v := ?v53) rfl (by kernel_rfl) (by kernel_rfl) (by kernel_rfl) (fun _ _ _ h => h) (Or.inl ⟨by rfl, ?y53⟩) (by assumption) ?r53
                case y53 =>
                  intro wq hSw
                  have q0 : wq.cell? ⟨gr, 1, none⟩ = some (.int .i64 (kk : Int)) := cell_of_row _ _ 1 _ _ _ (hSw.heap HG22.out (fun h => h))
                  clear hSw
                  go_simp
                  with_reducible rfl
                simp only [Act.put, List.getElem_toArray, List.getElem_cons_succ, List.getElem_cons_zero, List.setIfInBounds_toArray, List.set_cons_zero, List.set_cons_succ]
                refine wpAnyH_take (i := 25) (v := ?v54) rfl (by kernel_rfl) (by kernel_rfl) (by kernel_rfl) (fun _ _ _ h => h) (Or.inl ⟨by rfl, ?y54⟩) (by assumption) ?r54
                case y54 =>
                  intro wq hSw
                  clear hSw
                  go_simp
                  with_reducible rfl
                simp only [Act.put, List.getElem_toArray, List.getElem_cons_succ, List.getElem_cons_zero, List.setIfInBounds_toArray, List.set_cons_zero, List.set_cons_succ]
                refine wpAnyH_take (i := 26) (v := ?v55) rfl (by kernel_rfl) (by kernel_rfl) (by kernel_rfl) (fun _ _ _ h => h) (Or.inl ⟨by rfl, ?y55⟩) (by assumption) ?r55
                case y55 =>
                  intro wq hSw
                  clear hSw
                  go_simp
                  with_reducible rfl
                simp only [Act.put, List.getElem_toArray, List.getElem_cons_succ, List.getElem_cons_zero, List.setIfInBounds_toArray, List.set_cons_zero, List.set_cons_succ]
                refine wpAnyH_take (i := 27) (v := ?v56) rfl (by kernel_rfl) (by kernel_rfl) (by kernel_rfl) (fun _ _ _ h => h) (Or.inl ⟨by rfl, ?y56⟩) (by assumption) ?r56
                case y56 =>
                  intro wq hSw
                  clear hSw
                  go_simp
                  with_reducible rfl
                simp only [Act.put, List.getElem_toArray, List.getElem_cons_succ, List.getElem_cons_zero, List.setIfInBounds_toArray, List.set_cons_zero, List.set_cons_succ]
                refine wpAnyH_done (by kernel_rfl) ?_ _
                clear hHeld
                go_wp2_with fail
                go_roundw
                case rel => exact ⟨i3 + 1, _, _, _, _, by simp, by rw [← HM.out]; omega, C5.out.keep0 (Kp.drew _ _), by rw [← HM.out]; exact (Kp.drew (fun _ => False) _).own O5.out fun _ _ h => h, AP4.out, CO4.out, DR4.out⟩
                case measure => simp [Go.RowKit.intOf]; omega
              · have him : i3 = m := by omega
                have hF0 : F = [] := drain_empty (by rw [HDR3.out, him, HM.out, List.drop_length])
                have hB0 : ((b3.replies.length : Nat) : Int) = 0 := by rw [← HCO3.out.len, hF0]; rfl
                have HB3 := Lib.hid hB0
                subst him
                clear hF0 hB0
                go_wp2_with fail
                refine (waiting_vb HC3.out.nb HC3.out.bb 0 HB3.out).mono ?_
                rintro e w' ⟨rfl, rfl⟩
                dsimp only
                go_wp2_with fail
                go_ret
                exact ⟨rfl, HC3.out.k⟩
          · have hnb := (nextB_iff a2).2 hem
            obtain ⟨r, hr, _⟩ := kIdx_spec a2.replies hem
            have hnr : nextR a2 = r := by unfold nextR; rw [hr]
            have hpos : 0 < a2.replies.length := List.length_pos_iff.2 hem
            have hwl0 : (0 : Int) < (wl : Int) := by omega
            have NXT := Lib.hid (next_vb HC2.out.na HC2.out.ba r true hnr hnb)
            have hwm : waitLen wr va = wl := by rw [← HC2.out.ba, waitLen_eq HC2.out.na, hwl]
            have HWM2 := Lib.hid hwm
            have HEM := Lib.hid hr
            have hnl : (nextS a2).replies.length = wl - 1 := by rw [nextS_len, hwl]
            have HNL := Lib.hid hnl
            clear hca ho hap hx hm hwl hwl2 hnr hnb hem hwm hnl hpos
            go_wp2_with fail
            refine (waiting_vb HC2.out.na HC2.out.ba (wl : Int) HWL.out).mono ?_
            rintro e w' ⟨rfl, rfl⟩
            dsimp only
            go_wp2_with fail
            refine NXT.out.mono ?_
            rintro e w12 ⟨rfl, vra, hna, ka, la⟩
            have C4 := Lib.hid (HC2.out.stepA hna ka la)
            have O4 := Lib.hid (ka.own HO.out fun q hq hf => (HAP.out q hq).1 (NV.foot_dom hf))
            have AP4 := Lib.hid (HAP.out.stepA la fun q hq => (ownsRow_block HO.out hq).2.1)
            clear hna ka la e0
            dsimp only
            obtain ⟨rv, hrv⟩ : ∃ x, x = rpV r := ⟨_, rfl⟩
            rw [← hrv]
            have HRV := Lib.hid hrv
            clear hrv
            go_upto_region 20 with (first
              | (refine wpList_alloc50 rfl rfl ?_; intro gr w13 z13 hz13 hg13 eg13 sg13 k13; have HZ13 := Lib.hid hz13; have HG13 := Lib.hid hg13; have EG13 := Lib.hid eg13; have K13 := Lib.hid k13; clear hz13 hg13 eg13 sg13 k13)
              | (refine wpList_store50 rfl (.tmp 15) (.tmp 113) rfl gr r rfl HRV.out z13 HG13.out HZ13.out ?_; intro w14 hg14 k14; have K14 := Lib.hid ((K13.out.zero.trans k14 fun q h => .inl h : Kp (fun q => q = gr) w12 w14).mono (G := fun _ => False) (fun q h => .inr (by have := EG13.out; omega))); have HG14 := Lib.hid hg14; clear hg14 k14))
            have C5 := Lib.hid (C4.out.keep0 K14.out)
            have O5 := Lib.hid (K14.out.own O4.out fun _ _ h => h)
            obtain ⟨a0, a1, a2', a3, _⟩ := rp4 (m := r) HG14.out
            by_cases hmk : r.mir = (kk : Int)
            · have hmb : (r.mir == (kk : Int)) = true := by rw [hmk]; exact beq_self_eq_true _
              have HIN := Lib.hid (drain_in HEM.out hmk)
              clear hmk
              go_wp2_with (first
                | (refine wpList_append_src _ rfl (.tmp 121) (.tmp 123) 61 rfl W.heap.size 50 i50 (.agg #[.int .i64 0, .int .i64 0, .int .i64 0, .string emptyS]) 4 40 Try.underlying61 hi50 hza hzb hzc rfl (by decide) (.slice s m d) m (rps X) rfl ((Kp.alloc (fun _ => False) w14 _).own O5.out fun _ _ h => h) (some ⟨w14.heap.size, 0, none⟩) 1 1 (rpCells r) rfl (Src.one w14 50 4 (rpCells r) rfl) (rpCells_one r) (by unfold maxLen; omega) (by omega) (by have := C5.out.k.size; simp; omega) ?_; intro v15 w15 own15 grow15 loc15; obtain ⟨s15, d15, hv15, _, _, _, _⟩ := Src.of_own own15; subst hv15; have O15 := Lib.hid own15; have K15 := Lib.hid (((Kp.alloc (fun _ => False) w14 (.cells #[.int .i64 r.num, .int .i64 r.mir, .int .i64 r.at', .string r.b] 50)).zero (F := fun q => (Value.slice s m d).ownBlock = some q)).trans (Kp.grown (F := fun q => (Value.slice s m d).ownBlock = some q) grow15 fun q hq => hq) fun q hq => .inl hq); have L15 := Lib.hid loc15; clear own15 grow15 loc15))
              have C15 := C5.out.keepF K15.out (fun q hd hq => (AP4.out q hq).1 hd) (fun q hd hq => (AP4.out q hq).2 hd) (fun hq => other_type O5.out C5.out.xa (by decide) hq) (fun hq => other_type O5.out C5.out.xb (by decide) hq) (fun hq => by obtain ⟨cs, h1, _⟩ := C5.out.ro; exact other_type O5.out h1 (by decide) hq) (fun q hq => (ownsRow_block O5.out hq).1)
              have AP15 : Apart (.slice s15 (m + 1) d15) { Va2 with vr := vra } Vb2 := fun q hq => by
                rcases L15.out with h | h
                · exact AP4.out q (by rw [← h]; exact hq)
                · rw [hq] at h
                  have e := Option.some.inj h
                  have hsz : w14.heap.size ≤ q := by rw [e]; simp
                  exact ⟨fun hd => by have := (C5.out.na.dom_lt hd).2; omega, fun hd => by have := (C5.out.nb.dom_lt hd).2; omega⟩
              have hX2 : X ++ [r] ++ drain (ofMir kk (nextS a2).replies) = D := by
                rw [← HX.out, HIN.out, List.append_assoc]
                rfl
              have hmeas : waitLen w15 va < waitLen wr va := by
                rw [HWM2.out]
                have := waitLen_eq C15.na
                have e2 : ({ Va2 with vr := vra } : NV).b = va := C15.ba
                rw [e2, HNL.out] at this
                omega
              have hO15 : w15.ownsRow W.heap.size 50 4 (.slice s15 (X ++ [r]).length d15) (X ++ [r]).length (rps (X ++ [r])) := by
                rw [List.length_append, List.length_singleton, ← HM.out, rps_append]
                exact O15.out
              have hlen2 : (X ++ [r]).length = m + 1 := by rw [List.length_append, List.length_singleton, ← HM.out]
              clear a0 a1 a2' a3 hmb
              go_roundw
              case rel => exact ⟨X ++ [r], _, _, _, s15, d15, by rw [hlen2], C15, hO15, by rw [hlen2]; exact AP15, hX2, by rw [hlen2, HNL.out]; omega⟩
              case measure => exact hmeas
            · have hmb : (r.mir == (kk : Int)) = false := by rw [beq_eq_false_iff_ne]; exact hmk
              have HOUT := Lib.hid (drain_out HEM.out hmk)
              clear hmk
              go_wp2_with fail
              clear a0 a1 a2' a3 hmb
              have hmeas : waitLen w14 va < waitLen wr va := by
                rw [HWM2.out]
                have := waitLen_eq C5.out.na
                have e2 : ({ Va2 with vr := vra } : NV).b = va := C5.out.ba
                rw [e2, HNL.out] at this
                omega
              go_roundw
              case rel => exact ⟨X, _, _, _, s, d, by rw [← HM.out], C5.out, by rw [← HM.out]; exact O5.out, by rw [← HM.out]; exact AP4.out, by rw [show (nextS a2).replies = a2.replies.eraseIdx (kIdx a2.replies) from rfl, HOUT.out]; exact HX.out, by rw [← HM.out, HNL.out]; omega⟩
              case measure => exact hmeas


end Go.Proofs.Ytlkamfmepjddkaa
