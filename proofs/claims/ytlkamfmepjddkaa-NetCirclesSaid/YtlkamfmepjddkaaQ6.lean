/- Walk: a world's net and model. -/
import Derived.Test.YtlkamfmepjddkaaQ5
import Derived.Test.YtlkamfmepjddkaaQ3
import Derived.Test.YtlkamfmepjddkaaWk
set_option linter.unusedSimpArgs false
set_option linter.unusedVariables false
namespace Go.Proofs.Ytlkamfmepjddkaa
open Go.RowKit Go.Lib Go.Maps

theorem NetP.down {w : World} {B B' : Nat} {V : NV} {s : NS} (h : NetP w B' V s) (hB : B ≤ B') : NetP w B V s where
  hB := Nat.le_trans hB h.hB
  obj := h.obj
  pk := own_low h.pk hB
  old := own_low h.old hB
  mp := by
    rcases h.mp with h | ⟨g, n, e, hb, hq⟩
    · exact .inl h
    · exact .inr ⟨g, n, e, Nat.le_trans hB hb, hq⟩
  mir := own_low h.mir hB
  each := fun i m l a hm hl ha => by
    have M := h.each i m l a hm hl ha
    exact ⟨Nat.le_trans hB M.hB, M.cnt, own_low M.scr hB⟩
  nd := h.nd
  rep := own_low h.rep hB
  ok := h.ok
theorem RefP.down {w : World} {B B' : Nat} {V : RV} {s : NS} (h : RefP w B' V s) (hB : B ≤ B') : RefP w B V s where
  hB := Nat.le_trans hB h.hB
  obj := h.obj
  pk := own_low h.pk hB
  old := own_low h.old hB
  scr := own_low h.scr hB
  each := fun i m l hm hl => own_low (h.each i m l hm hl) hB
  ask := own_low h.ask hB
  rep := own_low h.rep hB
  ok := h.ok

theorem ScrOwn.src {w : World} {B : Nat} {s : Option Addr} {d : Nat} {sv : List Value} {S : List (List Bh)} (h : ScrOwn w B (.slice s S.length d) S.length sv S) : ScrSrc w s sv S := by
  refine ⟨?_, fun i m l hm hl => ?_⟩
  · obtain ⟨sp, cap, e, _, _, hs, _⟩ := Src.of_own h.1
    cases e
    exact hs
  · obtain ⟨sp, cap, e, _, _, hs, _⟩ := Src.of_own (h.2 i m l hm hl)
    exact ⟨sp, cap, e, hs⟩
theorem ScrSrc.keep0 {w w' : World} {sp : Option Addr} {sv : List Value} {S : List (List Bh)} (h : ScrSrc w sp sv S) (hk : Kp (fun _ => False) w w') : ScrSrc w' sp sv S :=
  ⟨h.1.keep0 hk, fun i m l hm hl => by obtain ⟨spl, cl, e, hs⟩ := h.2 i m l hm hl; exact ⟨spl, cl, e, hs.keep0 hk⟩⟩
theorem ScrOwn.keep0 {w w' : World} {B : Nat} {v : Value} {n : Nat} {sv : List Value} {S : List (List Bh)} (h : ScrOwn w B v n sv S) (hk : Kp (fun _ => False) w w') : ScrOwn w' B v n sv S :=
  ⟨hk.own h.1 fun _ _ h => h, fun i m l hm hl => hk.own (h.2 i m l hm hl) fun _ _ h => h⟩

theorem pkL_len (L : List ByteArray) : (pkL L).length ≤ 8 := by unfold pkL; rw [pkN_len]; omega
theorem modB_d (x : Bh) : (modB x).d ≤ 1000000 := by
  have := tmod_bd x.d 1000000 (by omega)
  show x.d.tmod 1000000 ≤ 1000000
  omega
theorem init_ok (LP LO : List ByteArray) (LS : List (List Bh)) (hl : ∀ l ∈ LS, l.length ≤ 5864062014805) : NOk (initS (pkL LP) (pkL LO) (scL LS)) where
  hp := pkN_ok LP _
  ho := pkN_ok LO _
  lp := Nat.le_trans (pkL_len LP) (by decide)
  lo := Nat.le_trans (pkL_len LO) (by decide)
  la := by simp [initS]
  ls := by simp only [initS, scL, List.length_map, List.length_take]; omega
  hs := fun l hl' => by
    obtain ⟨l0, h0, rfl⟩ := List.mem_map.1 hl'
    refine ⟨by rw [List.length_map]; exact hl l0 (List.mem_of_mem_take h0), fun x hx => ?_⟩
    obtain ⟨y, _, rfl⟩ := List.mem_map.1 hx
    exact modB_d y
  ha := fun k hk => by
    have : k ∈ List.replicate (scL LS).length 0 := hk
    rw [List.mem_replicate] at this
    rw [this.2]
    exact Nat.zero_le _
  hn := by simp [initS]
  lr := by simp [initS]

/-- A world that an argument holds. -/
structure WArg (w : World) (v : Value) (LP LO : List ByteArray) (LS : List (List Bh)) : Prop where
  form : ∃ sp1 c1 sp2 c2 sp3 c3 sv, v = .agg #[.slice sp1 LP.length c1, .slice sp2 LO.length c2, .slice sp3 LS.length c3] ∧ Src w 1 sp1 LP.length (strV LP) ∧ Src w 1 sp2 LO.length (strV LO) ∧ ScrSrc w sp3 sv LS
  zp : ∀ s ∈ LP, s.size ≤ 9223372036854775807
  zo : ∀ s ∈ LO, s.size ≤ 9223372036854775807
  zs : ∀ l ∈ LS, l.length ≤ 5864062014805
theorem WArg.keep0 {w w' : World} {v : Value} {LP LO : List ByteArray} {LS : List (List Bh)} (h : WArg w v LP LO LS) (hk : Kp (fun _ => False) w w') : WArg w' v LP LO LS := by
  obtain ⟨sp1, c1, sp2, c2, sp3, c3, sv, e, h1, h2, h3⟩ := h.form
  exact ⟨⟨sp1, c1, sp2, c2, sp3, c3, sv, e, h1.keep0 hk, h2.keep0 hk, h3.keep0 hk⟩, h.zp, h.zo, h.zs⟩

/-- Behind both New: apart, and nothing of the arguments. -/
theorem two_new {w3 w4 w5 : World} {V : NV} {R : RV} {s : NS} (hn : NetP w4 w3.heap.size V s) (hr : RefP w5 w4.heap.size R s) (k45 : Kp (fun _ => False) w4 w5) (h34 : w3.heap.size ≤ w4.heap.size) : DeskP w5 w3.heap.size V R s s :=
  ⟨hn.keep0 k45, hr.down h34, fun k h1 h2 => by have := (hn.dom_lt h1).2; have := (hr.dom_lt h2).1; omega⟩
theorem DeskP.down {w : World} {B B' : Nat} {V : NV} {R : RV} {s t : NS} (h : DeskP w B' V R s t) (hB : B ≤ B') : DeskP w B V R s t := ⟨h.n.down hB, h.r.down hB, h.ap⟩

theorem news_any (w : World) (P O : List Pk) (S : List (List Bh)) (sp1 sp2 sp3 : Option Addr) (c1 c2 c3 n1 n2 n3 : Nat) (e1 : n1 = P.length) (e2 : n2 = O.length) (e3 : n3 = S.length) (sv : List Value) (h1 : Src w 33 sp1 P.length (pks P)) (h2 : Src w 33 sp2 O.length (pks O)) (h3 : ScrSrc w sp3 sv S) (hok : NOk (initS P O S)) :
    Calls Try.prog 14 #[.slice sp1 n1 c1, .slice sp2 n2 c2, .slice sp3 n3 c3] w (NNewPost w P O S) := by
  subst e1 e2 e3
  exact new_any w P O S sp1 sp2 sp3 c1 c2 c3 sv h1 h2 h3.1 h3.2 hok
theorem rnews_any (w : World) (P O : List Pk) (S : List (List Bh)) (sp1 sp2 sp3 : Option Addr) (c1 c2 c3 n1 n2 n3 : Nat) (e1 : n1 = P.length) (e2 : n2 = O.length) (e3 : n3 = S.length) (sv : List Value) (h1 : Src w 33 sp1 P.length (pks P)) (h2 : Src w 33 sp2 O.length (pks O)) (h3 : ScrSrc w sp3 sv S) (hok : NOk (initS P O S)) :
    Calls Try.prog 20 #[.slice sp1 n1 c1, .slice sp2 n2 c2, .slice sp3 n3 c3] w (RNewPost w P O S) := by
  subst e1 e2 e3
  exact rnew_any w P O S sp1 sp2 sp3 c1 c2 c3 sv h1 h2 h3.1 h3.2 hok
theorem Src.own' {w : World} {B : Nat} {e : TypeId} {size n d : Nat} {s : Option Addr} {xs : List Value} (h : w.ownsRow B e size (.slice s n d) n xs) : Src w size s n xs := by
  obtain ⟨sp, cap, e, _, _, hs, _⟩ := Src.of_own h
  cases e
  exact hs

theorem info31s : (Try.prog.info? 31).map (·.size) = some 2 := by kernel_rfl
theorem desk_store (w : World) (x : Nat) (a b u v : Value) (h : w.heap[x]? = some (.cells #[a, b] 31 (0, 0))) :
    ((w.setCell ⟨x, 0, none⟩ u).setCell ⟨x, 1, none⟩ v).heap[x]? = some (.cells #[u, v] 31 (0, 0)) ∧ Kp (fun q => q = x) w ((w.setCell ⟨x, 0, none⟩ u).setCell ⟨x, 1, none⟩ v) :=
  ⟨heap_setCell_same _ _ 1 _ 31 _ (heap_setCell_same _ _ 0 _ 31 _ h), ktr (Kp.setCell (F := fun q => q = x) w (a := ⟨x, 0, none⟩) _ rfl) (Kp.setCell (F := fun q => q = x) _ (a := ⟨x, 1, none⟩) _ rfl)⟩

def BgPost (w : World) (s : NS) (e : Ending) (w' : World) : Prop := ∃ V R, e = .returned (dskV V R) ∧ DeskP w' w.heap.size V R s s ∧ Kp (fun _ => False) w w'

set_option maxRecDepth 100000 in
set_option maxHeartbeats 4000000 in
theorem begin_any (w : World) (v : Value) (LP LO : List ByteArray) (LS : List (List Bh)) (h : WArg w v LP LO LS) : Calls Try.prog 11 #[v] w (BgPost w (initS (pkL LP) (pkL LO) (scL LS))) := by
  obtain ⟨sp1, c1, sp2, c2, sp3, c3, sv, rfl, h1, h2, h3⟩ := h.form
  obtain ⟨n1, hn1⟩ : ∃ n, n = LP.length := ⟨_, rfl⟩
  obtain ⟨n2, hn2⟩ : ∃ n, n = LO.length := ⟨_, rfl⟩
  obtain ⟨n3, hn3⟩ : ∃ n, n = LS.length := ⟨_, rfl⟩
  have hok := init_ok LP LO LS h.zs
  obtain ⟨st, hst⟩ : ∃ st, st = initS (pkL LP) (pkL LO) (scL LS) := ⟨_, rfl⟩
  rw [← hst]
  rw [← hn1, ← hn2, ← hn3]
  have H := Lib.hid h
  have H1 := Lib.hid h1
  have H2 := Lib.hid h2
  have H3 := Lib.hid h3
  have HN1 := Lib.hid hn1
  have HN2 := Lib.hid hn2
  have HN3 := Lib.hid hn3
  have HOK := Lib.hid hok
  have HST := Lib.hid hst
  clear h h1 h2 h3 hn1 hn2 hn3 hok hst
  obtain ⟨wv, hwv⟩ : ∃ v, v = Value.agg #[.slice sp1 n1 c1, .slice sp2 n2 c2, .slice sp3 n3 c3] := ⟨_, rfl⟩
  obtain ⟨w0, hw0⟩ : ∃ w0, w0 = (w.alloc (.cells #[.slice sp1 n1 c1, .slice sp2 n2 c2, .slice sp3 n3 c3] 25)).alloc (.cells #[.pointer none, .pointer none] 31) := ⟨_, rfl⟩
  have k0 : Kp (fun _ => False) w w0 := by rw [hw0]; exact (Kp.alloc _ _ _).trans (Kp.alloc (fun _ => False) _ _) fun _ h => h.elim
  have hA : w0.heap[w.heap.size]? = some (.cells #[.slice sp1 n1 c1, .slice sp2 n2 c2, .slice sp3 n3 c3] 25 (0, 0)) := by rw [hw0]; exact heap_alloc2_old w _ _
  have hD : w0.heap[w.heap.size + 1]? = some (.cells #[.pointer none, .pointer none] 31 (0, 0)) := by rw [hw0]; exact heap_alloc2_new w _ _
  have s0 : w0.heap.size = w.heap.size + 2 := by rw [hw0]; simp
  have K0 := Lib.hid k0
  have HA := Lib.hid hA
  have HD := Lib.hid hD
  have S0 := Lib.hid s0
  have a0 := cell_of_row _ _ 0 _ _ _ hA
  have A1 := Lib.hid (cell_of_row _ _ 1 _ _ _ hA)
  clear k0 hA hD s0 hwv
  go_enter Try.func11, Try.ntmps11
  go_wp2_with fail
  rw [← hw0]
  clear hw0
  go_wp2_with fail
  have hp1 := packets_any w0 LP sp1 c1 (H1.out.keep0 K0.out) H.out.zp
  rw [← HN1.out] at hp1
  refine hp1.mono ?_
  rintro e w1 ⟨s1, d1, rfl, o1, k1⟩
  dsimp only
  have O1 := Lib.hid o1
  have K1 : Hid (Kp (fun _ => False) w w1) := Lib.hid (K0.out.trans k1 fun _ h => h.elim)
  have K01 := Lib.hid k1
  have a1 : w1.cell? ⟨w.heap.size, 1, none⟩ = some (.slice sp2 n2 c2) := k1.cell A1.out (fun h => h)
  clear hp1 o1 k1 a0
  go_wp2_with fail
  have hp2 := packets_any w1 LO sp2 c2 (H2.out.keep0 K1.out) H.out.zo
  rw [← HN2.out] at hp2
  refine hp2.mono ?_
  rintro e w2 ⟨s2, d2, rfl, o2, k2⟩
  dsimp only
  have O2 := Lib.hid o2
  have K2 : Hid (Kp (fun _ => False) w w2) := Lib.hid (K1.out.trans k2 fun _ h => h.elim)
  have K02 : Hid (Kp (fun _ => False) w0 w2) := Lib.hid (K01.out.trans k2 fun _ h => h.elim)
  have P1 := Lib.hid (k2.own O1.out fun _ _ h => h)
  have ar := Lib.hid (range_of_heap (K02.out.heap HA.out (fun h => h)))
  clear hp2 o2 k2 a1
  go_wp2_with (refine wpList_load_mid rfl 25 (.tmp 1) rfl w.heap.size 0 rfl _ _ ar.out Try.underlying25 rfl (by kernel_rfl) ?_)
  have hp3 := scripts_any w2 LS sp3 c3 sv (.slice sp1 n1 c1) (.slice sp2 n2 c2) (H3.out.keep0 K2.out) H.out.zs
  rw [← HN3.out] at hp3
  refine hp3.mono ?_
  rintro e w3 ⟨s3, d3, sv3, rfl, o3, k3⟩
  dsimp only
  have O3 := Lib.hid o3
  have K3 : Hid (Kp (fun _ => False) w w3) := Lib.hid (K2.out.trans k3 fun _ h => h.elim)
  have K03 : Hid (Kp (fun _ => False) w0 w3) := Lib.hid (K02.out.trans k3 fun _ h => h.elim)
  have P2 := Lib.hid (k3.own P1.out fun _ _ h => h)
  have Q2 := Lib.hid (k3.own O2.out fun _ _ h => h)
  obtain ⟨m1, hm1⟩ : ∃ n, n = (pkL LP).length := ⟨_, rfl⟩
  obtain ⟨m2, hm2⟩ : ∃ n, n = (pkL LO).length := ⟨_, rfl⟩
  obtain ⟨m3, hm3⟩ : ∃ n, n = (scL LS).length := ⟨_, rfl⟩
  rw [← hm1, ← hm2, ← hm3]
  have HM1 := Lib.hid hm1
  have HM2 := Lib.hid hm2
  have HM3 := Lib.hid hm3
  clear hp3 o3 k3 hm1 hm2 hm3
  go_wp2_with fail
  refine (news_any w3 (pkL LP) (pkL LO) (scL LS) s1 s2 s3 d1 d2 d3 m1 m2 m3 HM1.out HM2.out HM3.out sv3 (Src.own' P2.out) (Src.own' Q2.out) O3.out.src HOK.out).mono ?_
  rintro e w4 ⟨V, rfl, hV, k4⟩
  dsimp only
  rw [← HST.out] at hV
  have HV := Lib.hid hV
  have K4 := Lib.hid k4
  clear hV k4
  go_wp2_with fail
  refine (rnews_any w4 (pkL LP) (pkL LO) (scL LS) s1 s2 s3 d1 d2 d3 m1 m2 m3 HM1.out HM2.out HM3.out sv3 (Src.own' (K4.out.own P2.out fun _ _ h => h)) (Src.own' (K4.out.own Q2.out fun _ _ h => h)) (O3.out.keep0 K4.out).src HOK.out).mono ?_
  rintro e w5 ⟨R, rfl, hR, k5⟩
  dsimp only
  rw [← HST.out] at hR
  have HR := Lib.hid hR
  have K5 := Lib.hid k5
  have K35 : Hid (Kp (fun _ => False) w3 w5) := Lib.hid (K4.out.trans k5 fun _ h => h.elim)
  have D5 : Hid (DeskP w5 w3.heap.size V R st st) := Lib.hid (two_new HV.out hR k5 K4.out.size)
  have K05 : Hid (Kp (fun _ => False) w0 w5) := Lib.hid (K03.out.trans K35.out fun _ h => h.elim)
  have hD5 := K05.out.heap HD.out (fun h => h)
  have q0 := cell_of_row _ _ 0 _ _ _ hD5
  have q1 := cell_of_row _ _ 1 _ _ _ hD5
  have qf := fun j => frozen_of_row _ (w.heap.size + 1) j _ _ hD5
  have HD5 := Lib.hid hD5
  clear hR k5 hD5
  go_wp2_with fail
  obtain ⟨hE, kE⟩ := desk_store w5 (w.heap.size + 1) _ _ (.pointer (some ⟨V.b, 0, none⟩)) (.pointer (some ⟨R.b, 0, none⟩)) HD5.out
  refine bodyPost_ret (v := dskV V R) (results_cell_row rfl _ _ (w.heap.size + 1) 31 _ (0, 0) _ rfl hE Try.underlying31 rfl info31s) rfl ?_
  have hx : w.heap.size + 1 < w3.heap.size := by have := S0.out; have := K03.out.size; omega
  refine ⟨V, R, rfl, ?_, (K3.out.trans K35.out fun _ (h : False) => h.elim).trans kE fun q hq => .inr (by omega)⟩
  refine (D5.out.keep kE (fun k h e => ?_) (fun k h e => ?_)).down K3.out.size
  · have := (D5.out.n.dom_lt h).1; omega
  · have := (D5.out.r.dom_lt h).1; omega

end Go.Proofs.Ytlkamfmepjddkaa
