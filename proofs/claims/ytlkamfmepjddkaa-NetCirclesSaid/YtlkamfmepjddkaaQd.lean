/- Walk: NetHonest. -/
import Derived.Test.YtlkamfmepjddkaaQ9
import Derived.Test.YtlkamfmepjddkaaL2
set_option linter.unusedSimpArgs false
set_option linter.unusedVariables false
namespace Go.Proofs.Ytlkamfmepjddkaa
open Go.RowKit Go.Lib Go.Maps

theorem hon_ok (LP : List ByteArray) (d : Int) (hd : d ≤ 1000000) : NOk (initS (pkL LP) [] (honS d)) where
  hp := pkN_ok LP _
  ho := by intro p hp; simp [initS] at hp
  lp := Nat.le_trans (pkL_len LP) (by decide)
  lo := by simp [initS]
  la := by simp [initS]
  ls := by simp [initS, honS]
  hs := fun l hl => by
    have : l = [] ∨ l = [⟨1, d, 0⟩] := by simpa [initS, honS] using hl
    rcases this with rfl | rfl
    · simp
    · simp [hd]
  ha := fun k hk => by
    have : k ∈ List.replicate (honS d).length 0 := hk
    rw [List.mem_replicate] at this
    rw [this.2]
    exact Nat.zero_le _
  hn := by simp [initS]
  lr := by simp [initS]

theorem rng_rq {w : World} {g : Nat} {m : Int} {H : List UInt8} (h : w.heap[g]? = some (.cells (reqL m H).toArray 46 (0, 0))) : w.rangeAt g 1 (byteCells H) := by
  intro j v hv
  rw [cell_of_row _ _ _ _ _ _ h, Nat.add_comm 1 j]
  simpa [reqL] using hv
theorem ask_vb {w : World} {B vb : Nat} {V : NV} {st : NS} (h : NetP w B V st) (hb : V.b = vb) (now mir : Int) (hs : List UInt8) (hh : hs.length = 32) (c : Int) (hc : (st.n : Int) + 1 = c) (hn : st.n < 100000) (hnow : -1000000 ≤ now ∧ now ≤ 1000000) :
    Calls Try.prog 16 #[.pointer (some ⟨vb, 0, none⟩), .int .i64 now, .agg (reqL mir hs).toArray] w (AskPost w B V (askS st now mir hs) (.int .i64 c)) := by subst hb; exact ask_at h now mir hs hh c hc hn hnow
theorem next_vb {w : World} {B vb : Nat} {V : NV} {st : NS} (h : NetP w B V st) (hb : V.b = vb) (r : Rp) (b : Bool) (hr : nextR st = r) (hbb : nextB st = b) :
    Calls Try.prog 17 #[.pointer (some ⟨vb, 0, none⟩)] w (AskPost w B V (nextS st) (.tuple #[rpV r, .bool b])) := by subst hb; exact nextE_at h r b hr hbb
theorem waiting_vb {w : World} {B vb : Nat} {V : NV} {s : NS} (h : NetP w B V s) (hb : V.b = vb) (c : Int) (hc : (s.replies.length : Int) = c) : Calls Try.prog 18 #[.pointer (some ⟨vb, 0, none⟩)] w fun e w' => e = .returned (.int .i64 c) ∧ w = w' := by subst hb; exact waiting_at h c hc
structure HonAt (W wr : World) (vb : Nat) (LP : List ByteArray) (dd : Int) (v : Value) (m : Nat) (V : NV) (s : NS) (k : Nat) : Prop where
  n : NetP wr W.heap.size V s
  b : V.b = vb
  num : s.n = k
  rep : s.replies = []
  pk : s.packets = pkL LP
  scr : s.scripts = honS dd
  row : wr.ownsRow W.heap.size 54 33 v m (pks (pkL LP))
  k : Kp (fun q => W.heap.size ≤ q) W wr
def HoRel (W : World) (vb : Nat) (LP : List ByteArray) (dd : Int) (v : Value) (m n : Nat) (i : Value) (wr : World) : Prop :=
  ∃ (k : Nat) (V : NV) (s : NS), i = .int .i64 (k : Int) ∧ k ≤ n ∧ k ≤ 30 ∧ HonAt W wr vb LP dd v m V s k
def HoRel2 (w8 : World) (P : List Pk) (H : List UInt8) (i acc : Value) (wr : World) : Prop :=
  ∃ j : Nat, i = .int .i64 (j : Int) ∧ j ≤ P.length ∧ acc = .string (lastS (P.take j) H) ∧ Kp (fun _ => False) w8 wr
theorem lastS_take (P : List Pk) (j : Nat) (p : Pk) (H : List UInt8) (h : P[j]? = some p) : lastS (P.take (j + 1)) H = if p.h = H then p.b else lastS (P.take j) H := by
  obtain ⟨hlt, he⟩ := List.getElem?_eq_some_iff.1 h
  rw [List.take_succ_eq_append_getElem hlt, he, lastS_snoc]

set_option maxRecDepth 100000 in
set_option maxHeartbeats 8000000 in
theorem honest_walk (W : World) (sp : Option Addr) (cap : Nat) (LP : List ByteArray) (dl : Int) (v2 : Value) (L : List Ac) (hS : Src W 1 sp LP.length (strV LP)) (hZ : ∀ s ∈ LP, s.size ≤ 9223372036854775807) (hl : ActsArg W v2 L) :
    Calls Try.prog 4 #[.slice sp LP.length cap, .int .i64 dl, v2] W (LawPost W) := by
  obtain ⟨sq, cq, rfl, hsrc⟩ := hl
  obtain ⟨n, hn⟩ : ∃ n, n = L.length := ⟨_, rfl⟩
  obtain ⟨n1, hn1⟩ : ∃ n, n = LP.length := ⟨_, rfl⟩
  rw [← hn] at hsrc ⊢
  obtain ⟨dd, hdd⟩ : ∃ x, x = dl.tmod 1000 := ⟨_, rfl⟩
  have hbd := tmod_bd dl 1000 (by omega)
  have hd1 : dd ≤ 1000 := by omega
  have hd2 : -1000 ≤ dd := by omega
  have HOK := Lib.hid (hon_ok LP dd (by omega))
  have HDD := Lib.hid hdd
  have HN := Lib.hid hn
  have HN1 := Lib.hid hn1
  have HSRC := Lib.hid hsrc
  have HS := Lib.hid hS
  have HZ := Lib.hid hZ
  rw [← hn1]
  clear hn hn1 hsrc hS hZ hdd hbd
  go_enter Try.func4, Try.ntmps4
  go_wp2_with fail
  refine (sanity_any W).mono ?_
  rintro e w1 ⟨rfl, k1⟩
  have K1 := Lib.hid k1
  clear k1
  go_wp2_with fail
  have hp1 := packets_any w1 LP sp cap (HS.out.keep0 K1.out) HZ.out
  rw [← HN1.out] at hp1
  refine hp1.mono ?_
  rintro e w2 ⟨s1, d1, rfl, o2, k2⟩
  dsimp only
  obtain ⟨m, hm⟩ : ∃ m, m = (pkL LP).length := ⟨_, rfl⟩
  rw [← hm] at o2 ⊢
  have hm8 : m ≤ 8 := by rw [hm]; exact pkL_len LP
  have HM := Lib.hid hm
  have O2 := Lib.hid (own_low o2 K1.out.size)
  have K2 : Hid (Kp (fun _ => False) W w2) := Lib.hid (K1.out.trans k2 fun _ h => h.elim)
  clear hp1 o2 k2 hm
  go_wp2_with (first
    | (refine wpList_build40 rfl rfl ?_; intro g3 w3 own3 eg3 sg3 k3; have OWN3 := Lib.hid own3; have K3 := Lib.hid k3; clear own3 eg3 sg3 k3))
  rw [← HDD.out]
  obtain ⟨gs, hgs⟩ : ∃ g, g = w3.heap.size := ⟨_, rfl⟩
  rw [← hgs]
  obtain ⟨w4, hw4⟩ : ∃ u, u = (w3.alloc (.cells #[.int .i64 1, .int .i64 dd, .int .i64 0] 42)).alloc (.cells #[.slice (some ⟨g3, 0, none⟩) 0 0, .slice (some ⟨gs, 0, none⟩) 1 1] 40) := ⟨_, rfl⟩
  rw [← hw4]
  have k4 : Kp (fun _ => False) w3 w4 := by rw [hw4]; exact (Kp.alloc _ _ _).trans (Kp.alloc (fun _ => False) _ _) fun _ h => h.elim
  have ha4 : w4.heap[gs]? = some (.cells (bhs [⟨1, dd, 0⟩]).toArray 42 (0, 0)) := by rw [hw4, hgs]; exact heap_alloc2_old w3 _ _
  have hb4 : w4.heap[gs + 1]? = some (.cells #[.slice (some ⟨g3, 0, none⟩) 0 0, .slice (some ⟨gs, 0, none⟩) 1 1] 40 (0, 0)) := by rw [hw4, hgs]; exact heap_alloc2_new w3 _ _
  have K24 : Hid (Kp (fun _ => False) w2 w4) := Lib.hid (K3.out.trans k4 fun _ h => h.elim)
  have O4 := Lib.hid (K24.out.own O2.out fun _ _ h => h)
  have SS : Hid (ScrSrc w4 (some ⟨gs + 1, 0, none⟩) [.slice (some ⟨g3, 0, none⟩) 0 0, .slice (some ⟨gs, 0, none⟩) 1 1] (honS dd)) := Lib.hid ⟨⟨rfl, fun _ => ⟨gs + 1, 0, rfl, range_of_heap hb4⟩⟩, fun i m l hm hl => by
    match i, hm, hl with
    | 0, hm, hl =>
      simp [honS] at hm hl
      subst hm hl
      exact ⟨_, 0, rfl, Src.nil _ _ _⟩
    | 1, hm, hl =>
      simp [honS] at hm hl
      subst hm hl
      exact ⟨_, 1, rfl, rfl, fun _ => ⟨gs, 0, rfl, range_of_heap ha4⟩⟩
    | i + 2, hm, _ => simp at hm⟩
  clear hw4 ha4 hb4 k4 hgs
  refine (news_any w4 (pkL LP) [] (honS dd) s1 none (some ⟨gs + 1, 0, none⟩) d1 0 2 m 0 2 HM.out rfl rfl _ (Src.own' (HM.out ▸ O4.out)) (Src.nil _ _ _) SS.out HOK.out).mono ?_
  rintro e w5 ⟨V, rfl, hV, k5⟩
  dsimp only
  obtain ⟨vb, hvb⟩ : ∃ b, b = V.b := ⟨_, rfl⟩
  have K4 : Hid (Kp (fun _ => False) W w4) := Lib.hid (K2.out.trans K24.out fun _ h => h.elim)
  have HA : Hid (HonAt W w5 vb LP dd (.slice s1 m d1) m V (initS (pkL LP) [] (honS dd)) 0) := Lib.hid ⟨hV.down K4.out.size, hvb.symm, rfl, rfl, rfl, rfl, k5.own O4.out fun _ _ h => h, (K4.out.trans k5 fun _ h => h.elim).zero⟩
  rw [← hvb]
  clear hV k5 hvb
  go_wp2_with fail
  go_loopw [10] (fun i wr => HoRel W vb LP dd (.slice s1 m d1) m n i wr) (fun i _ => n - (Go.RowKit.intOf i).toNat)
  case atStart => exact ⟨0, V, _, rfl, Nat.zero_le _, Nat.zero_le _, HA.out⟩
  case round =>
    obtain ⟨k, V1, st, rfl, hk, hk30, hha⟩ := hrel
    have HL := Lib.hid hha
    clear hha
    by_cases hlt : k < n
    · by_cases h30 : k < 30
      · obtain ⟨ac, hac⟩ : ∃ a, L[k]? = some a := ⟨_, List.getElem?_eq_getElem (by rw [← HN.out]; exact hlt)⟩
        obtain ⟨g, o, rfl, hr⟩ := HSRC.out.2 (by omega)
        have RA : Hid (W.rangeAt g (o + k * 4) (acCells ac)) := Lib.hid (rangeAt_flat acCells 4 L hr k ac (fun _ _ => rfl) hac)
        have hgW : Hid (g < W.heap.size) := Lib.hid (rangeAt_lt RA.out (by rw [acCells_len]; decide))
        have RB : Hid (wr.rangeAt g (o + k * 4) (acCells ac)) := Lib.hid (rangeAt_kp RA.out HL.out.k (by have := hgW.out; show ¬ W.heap.size ≤ g; omega))
        have HI35 := Lib.hid (info35s ac)
        have j0 : (0 : Int) ≤ (k : Int) := by omega
        have j1 : (k : Int) < (n : Int) := by omega
        have j30 : (k : Int) < 30 := by omega
        obtain ⟨b, hb⟩ : ∃ b : Nat, b = k % 2 := ⟨_, rfl⟩
        have hb2 : (k : Int) % 2 = (b : Int) := by omega
        have hbl : b < 2 := by omega
        have HB2 := Lib.hid hb2
        obtain ⟨H, hH⟩ : ∃ H, H = hshK ac.h := ⟨_, rfl⟩
        have HH := Lib.hid hH
        have hHl : H.length = 32 := by rw [hH]; exact hshK_len _
        clear hac hr hb hH
        go_wp2_with (first
          | (refine wpList_load_mid rfl 35 (.tmp 43) rfl g (o + k * 4) rfl (acCells ac) _ RB.out Try.underlying35 rfl HI35.out ?_))
        refine (request_any ac.k ac.now ac.mir ac.h _).mono ?_
        rintro e w6 ⟨rfl, k6⟩
        rw [← HH.out]
        have K6 := Lib.hid k6
        clear k6 hb2
        dsimp only
        obtain ⟨rq, hrq⟩ : ∃ r, r = reqV (mirK ac.mir) H := ⟨_, rfl⟩
        rw [← hrq]
        have HRQ := Lib.hid hrq
        clear hrq
        go_upto_region 10 with (first
          | (refine wpList_alloc46 rfl rfl ?_; intro gq w7 z7 hz7 hg7 eg7 sg7 k7; have HZ7 := Lib.hid hz7; have HG7 := Lib.hid hg7; have EG7 := Lib.hid eg7; have K7 := Lib.hid k7; clear hz7 hg7 eg7 sg7 k7)
          | (refine wpList_store46 rfl (.tmp 11) (.tmp 45) rfl gq (mirK ac.mir) H hHl rfl HRQ.out z7 HG7.out HZ7.out ?_; intro w8 hg8 k8; have HG8 := Lib.hid hg8; have K68 := Lib.hid ((K7.out.zero.trans k8 fun q h => .inl h : Kp (fun q => q = gq) w6 w8).mono (G := fun _ => False) (fun q h => .inr (by have := EG7.out; omega))); clear hg8 k8))
        have K8 : Hid (Kp (fun _ => False) wr w8) := Lib.hid (K6.out.trans K68.out fun _ h => h.elim)
        have hgqwr : wr.heap.size ≤ gq := by have := EG7.out; have := K6.out.size; omega
        have qc : w8.cell? ⟨gq, 0, none⟩ = some (.int .i64 (mirK ac.mir)) := cell_of_row _ _ 0 _ _ _ HG8.out
        have qf := frozen_of_row _ gq 0 _ _ HG8.out
        have hb2 := HB2.out
        go_upto_region 11 with (fail)
        clear qc qf hb2
        obtain ⟨w9, hw9⟩ : ∃ u, u = w8.setCell ⟨gq, 0, none⟩ (.int .i64 (b : Int)) := ⟨_, rfl⟩
        have hg9 : w9.heap[gq]? = some (.cells (reqL (b : Int) H).toArray 46 (0, 0)) := by
          rw [hw9, heap_setCell_same w8 gq 0 _ 46 _ HG8.out]
          rfl
        have k9 : Kp (fun q => q = gq) w8 w9 := by rw [hw9]; exact Kp.setCell w8 (a := ⟨gq, 0, none⟩) _ rfl
        have K9 : Hid (Kp (fun _ => False) wr w9) := Lib.hid ((K8.out.zero.trans k9 fun q h => .inl h : Kp (fun q => q = gq) wr w9).mono fun q h => .inr (by omega))
        rw [← hw9]
        have HG9 := Lib.hid hg9
        have N9 := Lib.hid (HL.out.n.keep0 K9.out)
        have HI46 : Hid ((Try.prog.info? 46).map (·.size) = some (reqL (b : Int) H).length) := Lib.hid (info46s.trans (by rw [reqL_len _ _ hHl]))
        obtain ⟨q1, q2, q3, q4⟩ := hon_ask HL.out.scr HL.out.rep b hbl H
        obtain ⟨e1, e2, e3⟩ := one_next q1
        obtain ⟨att, hatt⟩ : ∃ a : Int, a = 100 + max (honD dd b) 0 := ⟨_, rfl⟩
        obtain ⟨tx, htx⟩ : ∃ t, t = wantedS (pkL LP) H := ⟨_, rfl⟩
        have hr : nextR (askS st 100 b H) = ⟨(k : Int) + 1, (b : Int), att, tx⟩ := by rw [e1, honR, HL.out.num, HL.out.pk, ← hatt, ← htx]
        have HR := Lib.hid hr
        have HE2 := Lib.hid e2
        have HE3 := Lib.hid e3
        have HQ2 := Lib.hid q2
        have HQ3 := Lib.hid q3
        have HQ4 := Lib.hid q4
        have HATT := Lib.hid hatt
        have HTX := Lib.hid htx
        have hnum := HL.out.num
        have HNUM := Lib.hid hnum
        have HVB := HL.out.b
        have hVB := Lib.hid HVB
        have rq9 := Lib.hid (range_of_heap HG9.out)
        clear hw9 hg9 k9 q1 q2 q3 q4 e1 e2 e3 hatt htx hr hnum HVB
        go_wp2_with (refine wpList_load_mid rfl 46 (.tmp 11) rfl gq 0 rfl (reqL (b : Int) H) _ rq9.out Try.underlying46 rfl HI46.out ?_)
        refine (ask_vb N9.out hVB.out 100 (b : Int) H hHl ((k : Int) + 1) (by rw [HNUM.out]) (by have := HNUM.out; omega) (by omega)).mono ?_
        rintro e wa ⟨rfl, vra, hna, ka, la⟩
        have NA := Lib.hid hna
        have KAf : Hid (Kp V1.foot w9 wa) := Lib.hid ka
        have HGa := Lib.hid (ka.heap HG9.out (N9.out.not_foot HG9.out (by decide) (by decide) (by decide)))
        have Oa := Lib.hid (ka.own (K9.out.own HL.out.row fun _ _ h => h) (N9.out.own_foot (K9.out.own HL.out.row fun _ _ h => h) (by decide) (by decide) (by decide)))
        have Ka : Hid (Kp (fun q => W.heap.size ≤ q) W wa) := Lib.hid ((HL.out.k.trans K9.out fun _ (h : False) => h.elim).trans ka fun q hq => .inl (N9.out.dom_lt (NV.foot_dom hq)).1)
        clear hna ka la
        dsimp only
        go_wp2_with fail
        refine (next_vb NA.out hVB.out ⟨(k : Int) + 1, (b : Int), att, tx⟩ true HR.out HE2.out).mono ?_
        rintro e wc ⟨rfl, vrc, hnc, kc, lc⟩
        have NC := Lib.hid hnc
        have HGc := Lib.hid (kc.heap HGa.out (NA.out.not_foot HGa.out (by decide) (by decide) (by decide)))
        have Oc := Lib.hid (kc.own Oa.out (NA.out.own_foot Oa.out (by decide) (by decide) (by decide)))
        have Kc : Hid (Kp (fun q => W.heap.size ≤ q) W wc) := Lib.hid (Ka.out.trans kc fun q hq => .inl (NA.out.dom_lt (NV.foot_dom hq)).1)
        clear hnc kc lc
        dsimp only
        obtain ⟨rv, hrv⟩ : ∃ x, x = rpV ⟨(k : Int) + 1, (b : Int), att, tx⟩ := ⟨_, rfl⟩
        rw [← hrv]
        have HRV := Lib.hid hrv
        clear hrv
        go_wp2_with (first
          | (refine wpList_alloc50 rfl rfl ?_; intro gr wd zd hzd hgd egd sgd kd; have HZd := Lib.hid hzd; have HGd := Lib.hid hgd; have EGd := Lib.hid egd; have Kd := Lib.hid kd; clear hzd hgd egd sgd kd)
          | (refine wpList_store50 rfl (.tmp 13) (.tmp 55) rfl gr ⟨(k : Int) + 1, (b : Int), att, tx⟩ rfl HRV.out zd HGd.out HZd.out ?_; intro we hge ke; have kce := (Kd.out.zero.trans ke fun q h => .inl h : Kp (fun q => q = gr) wc we).mono (G := fun _ => False) (fun q h => .inr (by have := EGd.out; omega)); have KCE := Lib.hid kce; have HGe := Lib.hid hge; clear hge ke kce))
        have NE := Lib.hid (NC.out.keep0 KCE.out)
        have OE := Lib.hid (KCE.out.own Oc.out fun _ _ h => h)
        have KE : Hid (Kp (fun q => W.heap.size ≤ q) W we) := Lib.hid (Kc.out.trans KCE.out fun _ (h : False) => h.elim)
        have RQE := Lib.hid (rng_rq (KCE.out.heap HGc.out fun h => h))
        go_loopw [16, 15] (fun i acc wz => HoRel2 we (pkL LP) H i acc wz) (fun i _ _ => m - (Go.RowKit.intOf i).toNat)
        case atStart => exact ⟨0, rfl, Nat.zero_le _, rfl, Kp.refl _ _⟩
        case round =>
          obtain ⟨wz, rfl⟩ : ∃ y, y = wr := ⟨_, rfl⟩
          obtain ⟨j, rfl, hj, rfl, hkp⟩ := hrel
          rw [← HM.out] at hj
          have HKZ := Lib.hid hkp
          clear hkp
          by_cases hlt2 : j < m
          · obtain ⟨p, hpj⟩ : ∃ p, (pkL LP)[j]? = some p := ⟨_, List.getElem?_eq_getElem (by rw [← HM.out]; exact hlt2)⟩
            have hpl : p.h.length = 32 := (pkN_ok LP _ p (List.mem_of_getElem? hpj)).1
            have OZ := HKZ.out.own OE.out fun _ _ h => h
            obtain ⟨gp, rfl, hgpo, hgpr, _, _⟩ := own_cells OZ (by omega)
            have rp : Hid (wz.rangeAt gp (j * 33) (byteCells p.h)) := Lib.hid (by
              have := pk_hash hgpr (fun x hx => (pkN_ok LP _ x hx).1) hpj
              rwa [Nat.zero_add] at this)
            have ct : Hid (wz.cell? ⟨gp, j * 33 + 32, none⟩ = some (.string p.b)) := Lib.hid (by
              have := pk_text hgpr (fun x hx => (pkN_ok LP _ x hx).1) hpj
              rwa [Nat.zero_add] at this)
            have rh : Hid (wz.rangeAt gq 1 (byteCells H)) := Lib.hid (rangeAt_kp RQE.out HKZ.out (fun h => h))
            have hi1 : Hid ((Try.prog.info? 44).map (·.size) = some (byteCells p.h).length) := Lib.hid (info44.trans (by simp [byteCells, hpl]))
            have hi2 : Hid ((Try.prog.info? 44).map (·.size) = some (byteCells H).length) := Lib.hid (info44.trans (by simp [byteCells, hHl]))
            have LT := Lib.hid (lastS_take (pkL LP) j p H hpj)
            have heq := run_eq44 p.h H hpl hHl
            have i0 : (0 : Int) ≤ (j : Int) := by omega
            have i1 : (j : Int) < (m : Int) := by omega
            have im : (m : Int) ≤ 8 := by omega
            clear hpj OZ hgpo hgpr
            by_cases hph : p.h = H
            · have hbt : (p.h == H) = true := by simpa using hph
              rw [hbt] at heq
              rw [if_pos hph] at LT
              clear hbt hph
              go_wp2_with fail
              refine wp_region_held_drew (S := fun u : World => u.rangeAt gp (j * 33) (byteCells p.h) ∧ u.rangeAt gq 1 (byteCells H) ∧ Kp (fun _ => False) wz u) (by kernel_rfl) (⟨rp.out, rh.out, Kp.drew _ _⟩) (fun hHeld => ?_)
              refine wpAnyH_take (i := 0) (v := ?v1) rfl (by kernel_rfl) (by kernel_rfl) (by kernel_rfl) (fun _ _ _ h => h) (Or.inl ⟨by rfl, ?y1⟩) (by assumption) ?r1
              case y1 =>
                intro wq hSw
                clear hSw
                go_simp
                with_reducible rfl
              simp only [Act.put, List.getElem_toArray, List.getElem_cons_succ, List.getElem_cons_zero, List.setIfInBounds_toArray, List.set_cons_zero, List.set_cons_succ]
              refine wpAnyH_take (i := 1) (v := ?v2) rfl (by kernel_rfl) (by kernel_rfl) (by kernel_rfl) (fun _ _ _ h => h) (Or.inl ⟨by rfl, ?y2⟩) (by assumption) ?r2
              case y2 =>
                intro wq hSw
                clear hSw
                go_simp
                with_reducible rfl
              simp only [Act.put, List.getElem_toArray, List.getElem_cons_succ, List.getElem_cons_zero, List.setIfInBounds_toArray, List.set_cons_zero, List.set_cons_succ]
              refine wpAnyH_take (i := 2) (v := ?v3) rfl (by kernel_rfl) (by kernel_rfl) (by kernel_rfl) (fun _ _ _ h => h) (Or.inl ⟨by rfl, ?y3⟩) (by assumption) ?r3
              case y3 =>
                intro wq hSw
                clear hSw
                go_simp
                with_reducible rfl
              simp only [Act.put, List.getElem_toArray, List.getElem_cons_succ, List.getElem_cons_zero, List.setIfInBounds_toArray, List.set_cons_zero, List.set_cons_succ]
              refine wpAnyH_take (i := 3) (v := ?v4) rfl (by kernel_rfl) (by kernel_rfl) (by kernel_rfl) (fun _ _ _ h => h) (Or.inl ⟨by rfl, ?y4⟩) (by assumption) ?r4
              case y4 =>
                intro wq hSw
                clear hSw
                go_simp
                with_reducible rfl
              simp only [Act.put, List.getElem_toArray, List.getElem_cons_succ, List.getElem_cons_zero, List.setIfInBounds_toArray, List.set_cons_zero, List.set_cons_succ]
              refine wpAnyH_take (i := 4) (v := _) rfl (by kernel_rfl) (by kernel_rfl) (by kernel_rfl) (fun _ _ _ h => h) (yieldsIf_load_mid (by rfl) _ _ rfl _ _ rfl _ _ (fun _ h => h.1) Try.underlying44 rfl hi1.out) (by assumption) ?_
              simp only [Act.put, List.getElem_toArray, List.getElem_cons_succ, List.getElem_cons_zero, List.setIfInBounds_toArray, List.set_cons_zero, List.set_cons_succ]
              refine wpAnyH_take (i := 5) (v := ?v5) rfl (by kernel_rfl) (by kernel_rfl) (by kernel_rfl) (fun _ _ _ h => h) (Or.inl ⟨by rfl, ?y5⟩) (by assumption) ?r5
              case y5 =>
                intro wq hSw
                clear hSw
                go_simp
                with_reducible rfl
              simp only [Act.put, List.getElem_toArray, List.getElem_cons_succ, List.getElem_cons_zero, List.setIfInBounds_toArray, List.set_cons_zero, List.set_cons_succ]
              refine wpAnyH_take (i := 6) (v := _) rfl (by kernel_rfl) (by kernel_rfl) (by kernel_rfl) (fun _ _ _ h => h) (yieldsIf_load_mid (by rfl) _ _ rfl _ _ rfl _ _ (fun _ h => h.2.1) Try.underlying44 rfl hi2.out) (by assumption) ?_
              simp only [Act.put, List.getElem_toArray, List.getElem_cons_succ, List.getElem_cons_zero, List.setIfInBounds_toArray, List.set_cons_zero, List.set_cons_succ]
              refine wpAnyH_take (i := 7) (v := ?v6) rfl (by kernel_rfl) (by kernel_rfl) (by kernel_rfl) (fun _ _ _ h => h) (Or.inl ⟨by rfl, ?y6⟩) (by assumption) ?r6
              case y6 =>
                intro wq hSw
                clear hSw
                go_simp
                with_reducible rfl
              simp only [Act.put, List.getElem_toArray, List.getElem_cons_succ, List.getElem_cons_zero, List.setIfInBounds_toArray, List.set_cons_zero, List.set_cons_succ]
              refine wpAnyH_done (by kernel_rfl) ?_ _
              have KF := Lib.hid (HKZ.out.trans hHeld.2.2 fun _ (h : False) => h.elim)
              have ct2 := hHeld.2.2.cell ct.out (fun h => h)
              clear hHeld heq
              go_wp2_with fail
              clear ct2
              go_roundw
              case rel => exact ⟨j + 1, by simp, by rw [← HM.out]; omega, by rw [LT.out], KF.out⟩
              case measure => simp [Go.RowKit.intOf]; omega
            · have hbt : (p.h == H) = false := by simpa using hph
              rw [hbt] at heq
              rw [if_neg hph] at LT
              clear hbt hph
              go_wp2_with fail
              refine wp_region_held_drew (S := fun u : World => u.rangeAt gp (j * 33) (byteCells p.h) ∧ u.rangeAt gq 1 (byteCells H) ∧ Kp (fun _ => False) wz u) (by kernel_rfl) (⟨rp.out, rh.out, Kp.drew _ _⟩) (fun hHeld => ?_)
              refine wpAnyH_take (i := 0) (v := ?v7) rfl (by kernel_rfl) (by kernel_rfl) (by kernel_rfl) (fun _ _ _ h => h) (Or.inl ⟨by rfl, ?y7⟩) (by assumption) ?r7
              case y7 =>
                intro wq hSw
                clear hSw
                go_simp
                with_reducible rfl
              simp only [Act.put, List.getElem_toArray, List.getElem_cons_succ, List.getElem_cons_zero, List.setIfInBounds_toArray, List.set_cons_zero, List.set_cons_succ]
              refine wpAnyH_take (i := 1) (v := ?v8) rfl (by kernel_rfl) (by kernel_rfl) (by kernel_rfl) (fun _ _ _ h => h) (Or.inl ⟨by rfl, ?y8⟩) (by assumption) ?r8
              case y8 =>
                intro wq hSw
                clear hSw
                go_simp
                with_reducible rfl
              simp only [Act.put, List.getElem_toArray, List.getElem_cons_succ, List.getElem_cons_zero, List.setIfInBounds_toArray, List.set_cons_zero, List.set_cons_succ]
              refine wpAnyH_take (i := 2) (v := ?v9) rfl (by kernel_rfl) (by kernel_rfl) (by kernel_rfl) (fun _ _ _ h => h) (Or.inl ⟨by rfl, ?y9⟩) (by assumption) ?r9
              case y9 =>
                intro wq hSw
                clear hSw
                go_simp
                with_reducible rfl
              simp only [Act.put, List.getElem_toArray, List.getElem_cons_succ, List.getElem_cons_zero, List.setIfInBounds_toArray, List.set_cons_zero, List.set_cons_succ]
              refine wpAnyH_take (i := 3) (v := ?v10) rfl (by kernel_rfl) (by kernel_rfl) (by kernel_rfl) (fun _ _ _ h => h) (Or.inl ⟨by rfl, ?y10⟩) (by assumption) ?r10
              case y10 =>
                intro wq hSw
                clear hSw
                go_simp
                with_reducible rfl
              simp only [Act.put, List.getElem_toArray, List.getElem_cons_succ, List.getElem_cons_zero, List.setIfInBounds_toArray, List.set_cons_zero, List.set_cons_succ]
              refine wpAnyH_take (i := 4) (v := _) rfl (by kernel_rfl) (by kernel_rfl) (by kernel_rfl) (fun _ _ _ h => h) (yieldsIf_load_mid (by rfl) _ _ rfl _ _ rfl _ _ (fun _ h => h.1) Try.underlying44 rfl hi1.out) (by assumption) ?_
              simp only [Act.put, List.getElem_toArray, List.getElem_cons_succ, List.getElem_cons_zero, List.setIfInBounds_toArray, List.set_cons_zero, List.set_cons_succ]
              refine wpAnyH_take (i := 5) (v := ?v11) rfl (by kernel_rfl) (by kernel_rfl) (by kernel_rfl) (fun _ _ _ h => h) (Or.inl ⟨by rfl, ?y11⟩) (by assumption) ?r11
              case y11 =>
                intro wq hSw
                clear hSw
                go_simp
                with_reducible rfl
              simp only [Act.put, List.getElem_toArray, List.getElem_cons_succ, List.getElem_cons_zero, List.setIfInBounds_toArray, List.set_cons_zero, List.set_cons_succ]
              refine wpAnyH_take (i := 6) (v := _) rfl (by kernel_rfl) (by kernel_rfl) (by kernel_rfl) (fun _ _ _ h => h) (yieldsIf_load_mid (by rfl) _ _ rfl _ _ rfl _ _ (fun _ h => h.2.1) Try.underlying44 rfl hi2.out) (by assumption) ?_
              simp only [Act.put, List.getElem_toArray, List.getElem_cons_succ, List.getElem_cons_zero, List.setIfInBounds_toArray, List.set_cons_zero, List.set_cons_succ]
              refine wpAnyH_take (i := 7) (v := ?v12) rfl (by kernel_rfl) (by kernel_rfl) (by kernel_rfl) (fun _ _ _ h => h) (Or.inl ⟨by rfl, ?y12⟩) (by assumption) ?r12
              case y12 =>
                intro wq hSw
                clear hSw
                go_simp
                with_reducible rfl
              simp only [Act.put, List.getElem_toArray, List.getElem_cons_succ, List.getElem_cons_zero, List.setIfInBounds_toArray, List.set_cons_zero, List.set_cons_succ]
              refine wpAnyH_done (by kernel_rfl) ?_ _
              have KF := Lib.hid (HKZ.out.trans hHeld.2.2 fun _ (h : False) => h.elim)
              clear hHeld heq
              go_wp2_with fail
              go_roundw
              case rel => exact ⟨j + 1, by simp, by rw [← HM.out]; omega, by rw [LT.out], KF.out⟩
              case measure => simp [Go.RowKit.intOf]; omega
          · have hjm : j = m := by omega
            have htk : lastS ((pkL LP).take j) H = tx := by
              rw [List.take_of_length_le (by rw [← HM.out]; omega), HTX.out]
              exact last_wanted LP H _ (Nat.min_le_right _ _)
            rw [htk]
            have N10 := Lib.hid (NE.out.keep0 HKZ.out)
            have K10 : Hid (Kp (fun q => W.heap.size ≤ q) W wz) := Lib.hid (KE.out.trans HKZ.out fun _ (h : False) => h.elim)
            have O10 := Lib.hid (HKZ.out.own OE.out fun _ _ h => h)
            obtain ⟨a0, a1, a2, a3, _⟩ := rp4 (m := ⟨(k : Int) + 1, (b : Int), att, tx⟩) (HKZ.out.heap HGe.out (fun h => h))
            dsimp only at a0 a1 a2 a3
            have HREL : Hid (HonAt W wz vb LP dd (.slice s1 m d1) m { { V1 with vr := vra } with vr := vrc } (nextS (askS st 100 b H)) (k + 1)) := Lib.hid ⟨N10.out, hVB.out, by show (askS st 100 b H).n = k + 1; rw [HQ4.out, HNUM.out], HE3.out, by show (askS st 100 b H).packets = pkL LP; rw [HQ2.out]; exact HL.out.pk, by show (askS st 100 b H).scripts = honS dd; exact HQ3.out, O10.out, K10.out⟩
            have hb2 := HB2.out
            clear hjm htk
            by_cases hb1 : b = 1
            · have hbB : ((b : Int) == 1) = true := by rw [hb1]; rfl
              obtain ⟨mx, hmx⟩ : ∃ x : Int, x = max (dl.tmod 1000) 0 := ⟨_, rfl⟩
              have hmx0 : 0 ≤ mx := by omega
              have hmx1 : mx ≤ 1000 := by have := HDD.out; omega
              have hat : att = 100 + mx := by rw [HATT.out, hmx, HDD.out, hb1]; rfl
              have HMX := Lib.hid hmx
              subst hat
              clear hmx hb1
              go_wp2_with (first | (refine wpList_max rfl (.tmp 80) (.const (.int .i64 0)) _ rfl .i64 (dl.tmod 1000) 0 mx rfl rfl HMX.out ?_))
              clear a0 a1 a2 a3 hb2 hbB
              go_roundw
              case rel => exact ⟨k + 1, _, _, by simp, by omega, by omega, HREL.out⟩
              case measure => simp [Go.RowKit.intOf]; omega
            · have hbz : b = 0 := by omega
              have hbB : ((b : Int) == 1) = false := by rw [hbz]; rfl
              have hat : att = 101 := by rw [HATT.out, hbz]; rfl
              subst hat
              clear hb1 hbz
              go_wp2_with fail
              clear a0 a1 a2 a3 hb2 hbB
              go_roundw
              case rel => exact ⟨k + 1, _, _, by simp, by omega, by omega, HREL.out⟩
              case measure => simp [Go.RowKit.intOf]; omega
      · have h33 : k = 30 := by omega
        subst h33
        clear h30
        go_wp2_with fail
        refine (waiting_vb HL.out.n HL.out.b 0 (by rw [HL.out.rep]; rfl)).mono ?_
        rintro e w' ⟨rfl, rfl⟩
        dsimp only
        go_wp2_with fail
        go_ret
        exact ⟨rfl, HL.out.k⟩
    · have hjn : k = n := by omega
      subst hjn
      go_wp2_with fail
      refine (waiting_vb HL.out.n HL.out.b 0 (by rw [HL.out.rep]; rfl)).mono ?_
      rintro e w' ⟨rfl, rfl⟩
      dsimp only
      go_wp2_with fail
      go_ret
      exact ⟨rfl, HL.out.k⟩

end Go.Proofs.Ytlkamfmepjddkaa
