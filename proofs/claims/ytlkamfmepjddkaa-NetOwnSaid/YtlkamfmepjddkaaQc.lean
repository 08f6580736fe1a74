/- Walk: NetOwn. -/
import Derived.Test.YtlkamfmepjddkaaQ8
set_option linter.unusedSimpArgs false
set_option linter.unusedVariables false
namespace Go.Proofs.Ytlkamfmepjddkaa
open Go.RowKit Go.Lib Go.Maps

/-- A law's state whose blocks lie from B2 on. -/
structure OwnAt (W : World) (B2 : Nat) (u : World) (x : Nat) (V : NV) (R : RV) (s : NS) : Prop where
  la : LawAt W u x V R s
  vb : ∀ k, V.dom k → B2 ≤ k
  rb : ∀ k, R.dom k → B2 ≤ k
  xb : B2 ≤ x
theorem OwnAt.store {W : World} {B2 : Nat} {u u' : World} {x : Nat} {V : NV} {R : RV} {s : NS} (h : OwnAt W B2 u x V R s) {g : Nat} (hk : Kp (fun q => q = g) u u') (h1 : W.heap.size ≤ g) (h2 : g < B2) : OwnAt W B2 u' x V R s :=
  ⟨⟨h.la.d.keep hk (fun k hd e => by have := h.vb k hd; omega) (fun k hd e => by have := h.rb k hd; omega), hk.heap h.la.dx (by have := h.xb; show ¬ x = g; omega), h.la.k.trans hk fun q hq => .inl (by show W.heap.size ≤ q; omega)⟩, h.vb, h.rb, h.xb⟩

/-- A row that is there to be written. -/
def PShape (A B2 : Nat) (u : World) (sp : Option Addr) (n : Nat) (e : TypeId) (sz : Nat) : Prop :=
  n = 0 ∨ ∃ (g : Nat) (cur : Array Value), sp = some ⟨g, 0, none⟩ ∧ A ≤ g ∧ g < B2 ∧ u.heap[g]? = some (.cells cur e (0, 0)) ∧ n * sz ≤ cur.size
theorem PShape.of {A B2 : Nat} {u : World} {e : TypeId} {sz n d : Nat} {sp : Option Addr} {xs : List Value} (h : u.ownsRow A e sz (.slice sp n d) n xs) (hb : ∀ k, (Value.slice sp n d).ownBlock = some k → k < B2) : PShape A B2 u sp n e sz := by
  rcases h.2 with ⟨h1, _⟩ | ⟨g, cap, cur, h1, hA, hg, hn, _, hs, _⟩
  · cases h1; exact .inl rfl
  · cases h1
    exact .inr ⟨g, cur, rfl, hA, hb g rfl, hg, by rw [hs]; exact Nat.mul_le_mul_right _ hn⟩
theorem PShape.keep {A B2 : Nat} {u u' : World} {sp : Option Addr} {n : Nat} {e : TypeId} {sz : Nat} (h : PShape A B2 u sp n e sz) {g' : Nat} {t : TypeId} {c c' : Array Value} (hk : Kp (fun q => q = g') u u') (h1 : u.heap[g']? = some (.cells c t (0, 0))) (h2 : u'.heap[g']? = some (.cells c' t (0, 0))) (hs : c'.size = c.size) : PShape A B2 u' sp n e sz := by
  rcases h with h | ⟨g, cur, e1, hA, hB, hg, hn⟩
  · exact .inl h
  · by_cases hgg : g = g'
    · subst hgg
      rw [hg] at h1
      cases h1
      exact .inr ⟨g, c', e1, hA, hB, h2, by rw [hs]; exact hn⟩
    · exact .inr ⟨g, cur, e1, hA, hB, hk.heap hg hgg, hn⟩
theorem PShape.keepF {A B2 : Nat} {F : Nat → Prop} {u u' : World} {sp : Option Addr} {n : Nat} {e : TypeId} {sz : Nat} (h : PShape A B2 u sp n e sz) (hk : Kp F u u') (hF : ∀ k, k < B2 → ¬ F k) : PShape A B2 u' sp n e sz := by
  rcases h with h | ⟨g, cur, e1, hA, hB, hg, hn⟩
  · exact .inl h
  · exact .inr ⟨g, cur, e1, hA, hB, hk.heap hg (hF g hB), hn⟩

/-- The row of scripts, and each script's row. -/
def SShape (A B2 : Nat) (u : World) (sp : Option Addr) (n : Nat) : Prop :=
  n = 0 ∨ ∃ (g : Nat) (cur : Array Value), sp = some ⟨g, 0, none⟩ ∧ A ≤ g ∧ g < B2 ∧ u.heap[g]? = some (.cells cur 40 (0, 0)) ∧ n ≤ cur.size ∧ ∀ i, i < n → ∃ spl l c, cur[i]? = some (.slice spl l c) ∧ l ≤ 5864062014805 ∧ PShape A B2 u spl l 42 3
theorem SShape.keep {A B2 : Nat} {u u' : World} {sp : Option Addr} {n : Nat} (h : SShape A B2 u sp n) {g' : Nat} {t : TypeId} {c c' : Array Value} (ht : t ≠ 40) (hk : Kp (fun q => q = g') u u') (h1 : u.heap[g']? = some (.cells c t (0, 0))) (h2 : u'.heap[g']? = some (.cells c' t (0, 0))) (hs : c'.size = c.size) : SShape A B2 u' sp n := by
  rcases h with h | ⟨g, cur, e1, hA, hB, hg, hn, hi⟩
  · exact .inl h
  · refine .inr ⟨g, cur, e1, hA, hB, hk.heap hg (fun e => ?_), hn, fun i h => ?_⟩
    · have e' : g = g' := e
      subst e'
      rw [hg] at h1
      cases h1
      exact ht rfl
    · obtain ⟨spl, l, cc, h3, hb, h4⟩ := hi i h
      exact ⟨spl, l, cc, h3, hb, h4.keep hk h1 h2 hs⟩

/-- A store of some cells into a row. -/
theorem wpList_storeM {w : World} {ops : Array Oper} {rest : List Oper} {o : Oper} {a : Act} {Q : Exit → Act → World → Prop} (hgd : o.guard = none) (ty : TypeId) (x y : Operand) (ho : o.op = .store ty x y) (g off : Nat) (cs : List Value) (hx : a.eval x = .pointer (some ⟨g, off, none⟩)) (hy : a.eval y = .agg cs.toArray)
    (t : TypeId) (cur : Array Value) (hg : w.heap[g]? = some (.cells cur t (0, 0))) (hfit : off + cs.length ≤ cur.size) (hi : (Try.prog.info? ty).map (·.size) = some cs.length) (h1 : ∀ v ∈ cs, v.oneCell' = true)
    (h : ∀ w' cur', w'.heap[g]? = some (.cells cur' t (0, 0)) → cur'.size = cur.size → Kp (fun k => k = g) w w' → wpList Try.prog ops Q rest (a.put o.dst undef) w') : wpList Try.prog ops Q (o :: rest) a w := by
  have hc := heap_setCells g t (0, 0) cs off w cur hg hfit
  refine wpList_store_mid hgd ty x y ho g off cs.toArray hx hy (fun j hj => ?_) (hi.trans (by simp)) (all_oneCell_toArray h1) (h _ _ hc ?_ (Kp.grown (grownBy_setCells g cs off w) fun k e => (Option.some.inj e).symm))
  · have hj' : off + j < cur.size := by simp at hj; omega
    refine ⟨?_, frozen_of_row _ _ _ _ _ hg⟩
    rw [cell_of_row _ _ _ _ _ _ hg]
    simp [hj']
  · simp
    omega

def chgS : ByteArray := ⟨#[99, 104, 97, 110, 103, 101, 100]⟩
def P0 : Pk := ⟨List.replicate 32 0, chgS⟩
theorem built54z : Try.prog.built 54 [(1, .string chgS)] = some (pkCells P0).toArray := by kernel_rfl

def OwRel1 (W : World) (B2 x : Nat) (V : NV) (R : RV) (st : NS) (s1 s2 s3 : Option Addr) (m1 m2 m3 lim : Nat) (i : Value) (wr : World) : Prop :=
  ∃ k : Nat, i = .int .i64 (k : Int) ∧ k ≤ lim ∧ OwnAt W B2 wr x V R st ∧ PShape W.heap.size B2 wr s1 m1 54 33 ∧ PShape W.heap.size B2 wr s2 m2 54 33 ∧ SShape W.heap.size B2 wr s3 m3
def OwRel3 (W : World) (B2 x : Nat) (V : NV) (R : RV) (st : NS) (s3 : Option Addr) (m3 : Nat) (i : Value) (wr : World) : Prop :=
  ∃ k : Nat, i = .int .i64 (k : Int) ∧ k ≤ m3 ∧ OwnAt W B2 wr x V R st ∧ SShape W.heap.size B2 wr s3 m3
def OwRel2 (W : World) (B2 x : Nat) (V : NV) (R : RV) (st : NS) (gs : Nat) (cur : Array Value) (m3 l : Nat) (i : Value) (wr : World) : Prop :=
  ∃ k : Nat, i = .int .i64 (k : Int) ∧ k ≤ l ∧ OwnAt W B2 wr x V R st ∧ wr.heap[gs]? = some (.cells cur 40 (0, 0)) ∧ ∀ i, i < m3 → ∃ spl l c, cur[i]? = some (.slice spl l c) ∧ l ≤ 5864062014805 ∧ PShape W.heap.size B2 wr spl l 42 3

set_option maxRecDepth 100000 in
set_option maxHeartbeats 8000000 in
theorem own_walk (W : World) (v v1 : Value) (LP LO : List ByteArray) (LS : List (List Bh)) (L : List Ac) (hv : WArg W v LP LO LS) (hl : ActsArg W v1 L) : Calls Try.prog 7 #[v, v1] W (LawPost W) := by
  obtain ⟨sp, cap, rfl, hsrc⟩ := hl
  obtain ⟨n, hn⟩ : ∃ n, n = L.length := ⟨_, rfl⟩
  rw [← hn] at hsrc ⊢
  have HN := Lib.hid hn
  have HSRC := Lib.hid hsrc
  have HV := Lib.hid hv
  obtain ⟨sp1, c1, sp2, c2, sp3, c3, sv, rfl, h1, h2, h3⟩ := hv.form
  obtain ⟨n1, hn1⟩ : ∃ n, n = LP.length := ⟨_, rfl⟩
  obtain ⟨n2, hn2⟩ : ∃ n, n = LO.length := ⟨_, rfl⟩
  obtain ⟨n3, hn3⟩ : ∃ n, n = LS.length := ⟨_, rfl⟩
  have HOK := Lib.hid (init_ok LP LO LS hv.zs)
  rw [← hn1, ← hn2, ← hn3]
  have H1 := Lib.hid h1
  have H2 := Lib.hid h2
  have H3 := Lib.hid h3
  have HN1 := Lib.hid hn1
  have HN2 := Lib.hid hn2
  have HN3 := Lib.hid hn3
  obtain ⟨st, hst⟩ : ∃ st, st = initS (pkL LP) (pkL LO) (scL LS) := ⟨_, rfl⟩
  have HST := Lib.hid hst
  have hs0 : st.n = 0 := by rw [hst]; rfl
  have HS0 := Lib.hid hs0
  obtain ⟨w0, hw0⟩ : ∃ w0, w0 = W.alloc (.cells #[.slice sp1 n1 c1, .slice sp2 n2 c2, .slice sp3 n3 c3] 25) := ⟨_, rfl⟩
  have k0 : Kp (fun _ => False) W w0 := by rw [hw0]; exact Kp.alloc _ _ _
  have hA : w0.heap[W.heap.size]? = some (.cells #[.slice sp1 n1 c1, .slice sp2 n2 c2, .slice sp3 n3 c3] 25 (0, 0)) := by rw [hw0]; exact heap_alloc_new W _
  have K0 := Lib.hid k0
  have HA := Lib.hid hA
  have HI54 : Hid ((Try.prog.info? 54).map (·.size) = some (pkCells P0).length) := Lib.hid (info54s.trans (by rw [pkCells_len P0 rfl]))
  clear hn hsrc hv k0 hA h1 h2 h3 hn1 hn2 hn3 hst hs0
  go_enter Try.func7, Try.ntmps7
  go_wp2_with fail
  rw [← hw0]
  clear hw0
  refine (sanity_any w0).mono ?_
  rintro e wa ⟨rfl, ka⟩
  have KA : Hid (Kp (fun _ => False) W wa) := Lib.hid (K0.out.trans ka fun _ h => h.elim)
  have HA1 := Lib.hid (ka.heap HA.out (fun h => h))
  have a0 : wa.cell? ⟨W.heap.size, 0, none⟩ = some (.slice sp1 n1 c1) := cell_of_row _ _ 0 _ _ _ HA1.out
  clear ka
  go_wp2_with fail
  have hp1 := packets_any wa LP sp1 c1 (H1.out.keep0 KA.out) HV.out.zp
  rw [← HN1.out] at hp1
  refine hp1.mono ?_
  rintro e w1 ⟨s1, d1, rfl, o1, k1⟩
  dsimp only
  have O1 := Lib.hid o1
  have K1 : Hid (Kp (fun _ => False) W w1) := Lib.hid (KA.out.trans k1 fun _ h => h.elim)
  have HA2 := Lib.hid (k1.heap HA1.out (fun h => h))
  have a1 : w1.cell? ⟨W.heap.size, 1, none⟩ = some (.slice sp2 n2 c2) := cell_of_row _ _ 1 _ _ _ HA2.out
  clear hp1 o1 k1 a0
  go_wp2_with fail
  have hp2 := packets_any w1 LO sp2 c2 (H2.out.keep0 K1.out) HV.out.zo
  rw [← HN2.out] at hp2
  refine hp2.mono ?_
  rintro e w2 ⟨s2, d2, rfl, o2, k2⟩
  dsimp only
  have O2 := Lib.hid o2
  have K2 : Hid (Kp (fun _ => False) W w2) := Lib.hid (K1.out.trans k2 fun _ h => h.elim)
  have P1 := Lib.hid (k2.own O1.out fun _ _ h => h)
  have ar := Lib.hid (range_of_heap (cs := [.slice sp1 n1 c1, .slice sp2 n2 c2, .slice sp3 n3 c3]) (k2.heap HA2.out (fun h => h)))
  clear hp2 o2 k2 a1
  go_wp2_with (refine wpList_load_mid rfl 25 (.tmp 2) rfl W.heap.size 0 rfl _ _ ar.out Try.underlying25 rfl (by kernel_rfl) ?_)
  have hp3 := scripts_any w2 LS sp3 c3 sv (.slice sp1 n1 c1) (.slice sp2 n2 c2) (H3.out.keep0 K2.out) HV.out.zs
  rw [← HN3.out] at hp3
  refine hp3.mono ?_
  rintro e w3 ⟨s3, d3, sv3, rfl, o3, k3⟩
  dsimp only
  have O3 := Lib.hid o3
  have K3 : Hid (Kp (fun _ => False) W w3) := Lib.hid (K2.out.trans k3 fun _ h => h.elim)
  have P2 := Lib.hid (k3.own P1.out fun _ _ h => h)
  have Q2 := Lib.hid (k3.own O2.out fun _ _ h => h)
  obtain ⟨m1, hm1⟩ : ∃ n, n = (pkL LP).length := ⟨_, rfl⟩
  obtain ⟨m2, hm2⟩ : ∃ n, n = (pkL LO).length := ⟨_, rfl⟩
  obtain ⟨m3, hm3⟩ : ∃ n, n = (scL LS).length := ⟨_, rfl⟩
  have hm1b : m1 ≤ 8 := by rw [hm1]; exact pkL_len LP
  have hm2b : m2 ≤ 8 := by rw [hm2]; exact pkL_len LO
  have hm3b : m3 ≤ 5 := by rw [hm3]; simp only [scL, List.length_map, List.length_take]; omega
  rw [← hm1, ← hm2, ← hm3]
  have HM1 := Lib.hid hm1
  have HM2 := Lib.hid hm2
  have HM3 := Lib.hid hm3
  clear hp3 o3 k3 hm1 hm2 hm3
  go_wp2_with fail
  refine (news_any w3 (pkL LP) (pkL LO) (scL LS) s1 s2 s3 d1 d2 d3 m1 m2 m3 HM1.out HM2.out HM3.out sv3 (Src.own' P2.out) (Src.own' Q2.out) O3.out.src HOK.out).mono ?_
  rintro e w4 ⟨V, rfl, hV, k4⟩
  dsimp only
  rw [← HST.out] at hV
  have HVV := Lib.hid hV
  have K4 := Lib.hid k4
  clear hV k4
  go_wp2_with fail
  refine (rnews_any w4 (pkL LP) (pkL LO) (scL LS) s1 s2 s3 d1 d2 d3 m1 m2 m3 HM1.out HM2.out HM3.out sv3 (Src.own' (K4.out.own P2.out fun _ _ h => h)) (Src.own' (K4.out.own Q2.out fun _ _ h => h)) (O3.out.keep0 K4.out).src HOK.out).mono ?_
  rintro e w5 ⟨R, rfl, hR, k5⟩
  dsimp only
  rw [← HST.out] at hR
  have K35 : Hid (Kp (fun _ => False) w3 w5) := Lib.hid (K4.out.trans k5 fun _ h => h.elim)
  have D5 : Hid (DeskP w5 w3.heap.size V R st st) := Lib.hid (two_new HVV.out hR k5 K4.out.size)
  have VB : Hid (∀ k, V.dom k → w3.heap.size ≤ k) := Lib.hid fun k h => (HVV.out.dom_lt h).1
  have RBB : Hid (∀ k, R.dom k → w3.heap.size ≤ k) := Lib.hid fun k h => by have := (hR.dom_lt h).1; have := K4.out.size; omega
  clear hR k5
  go_wp2_with (first
    | (refine wpList_alloc31 rfl rfl ?_; intro x w6 z6 hz6 hg6 eg6 sg6 k6; have HZ6 := Lib.hid hz6; have HG6 := Lib.hid hg6; have EG6 := Lib.hid eg6; have K6 := Lib.hid k6; clear hz6 hg6 eg6 sg6 k6)
    | (refine wpList_store31 rfl (.tmp 9) (.tmp 33) rfl x V R rfl rfl z6 HG6.out HZ6.out ?_; intro w7 hg7 k7; have LA := Lib.hid (law_start (D5.out.down K3.out.size) (K3.out.trans K35.out fun _ h => h.elim) K6.out EG6.out k7 hg7); have K37 : Hid (Kp (fun q => q = x) w3 w7) := Lib.hid ((K35.out.zero.trans K6.out.zero fun q (h : q = x) => .inl h).trans k7 fun q h => .inl h); have c0 := LA.out.c0; clear hg7 k7))
  clear c0
  obtain ⟨B2, hB2⟩ : ∃ B2, B2 = w3.heap.size := ⟨_, rfl⟩
  have hxB : B2 ≤ x := by have := EG6.out; have := K35.out.size; omega
  have OA : Hid (OwnAt W B2 w7 x V R st) := Lib.hid ⟨LA.out, by rw [hB2]; exact VB.out, by rw [hB2]; exact RBB.out, hxB⟩
  have hlt3 : ∀ {e : TypeId} {sz n A : Nat} {v : Value} {xs : List Value}, w3.ownsRow A e sz v n xs → ∀ k, v.ownBlock = some k → k < B2 := fun ho k hk => by rw [hB2]; exact (ownsRow_block ho hk).2.1
  have hxF : ∀ k, k < B2 → ¬ (fun q => q = x) k := fun k hk e => by have e' : k = x := e; omega
  have PS1 : Hid (PShape W.heap.size B2 w7 s1 m1 54 33) := Lib.hid ((PShape.of (own_low (HM1.out ▸ P2.out) KA.out.size) (hlt3 (HM1.out ▸ P2.out))).keepF K37.out hxF)
  have PS2 : Hid (PShape W.heap.size B2 w7 s2 m2 54 33) := Lib.hid ((PShape.of (own_low (HM2.out ▸ Q2.out) K1.out.size) (hlt3 (HM2.out ▸ Q2.out))).keepF K37.out hxF)
  have SS3 : Hid (SShape W.heap.size B2 w7 s3 m3) := Lib.hid (by
    have hO := O3.out
    rw [← HM3.out] at hO
    rcases hO.1.2 with ⟨e, _⟩ | ⟨g, cp, cur, e, hA, hg, hnc, _, hs, ht⟩
    · cases e; exact .inl rfl
    · cases e
      refine .inr ⟨g, cur, rfl, Nat.le_trans K2.out.size hA, hlt3 hO.1 g rfl, K37.out.heap hg (hxF g (hlt3 hO.1 g rfl)), by rw [hs, Nat.mul_one]; exact hnc, fun i hi => ?_⟩
      have hsvl : sv3.length = m3 := by have := hO.1.1; simpa using this
      obtain ⟨mm, hmm⟩ : ∃ m, sv3[i]? = some m := ⟨_, List.getElem?_eq_getElem (by omega)⟩
      obtain ⟨l, hl⟩ : ∃ l, (scL LS)[i]? = some l := ⟨_, List.getElem?_eq_getElem (by rw [← HM3.out]; exact hi)⟩
      have hrow := hO.2 i mm l hmm hl
      obtain ⟨spl, cl, e2, _, _, _, _⟩ := Src.of_own hrow
      subst e2
      refine ⟨spl, l.length, cl, ?_, (HOK.out.hs l (List.mem_of_getElem? hl)).1, (PShape.of (own_low hrow K2.out.size) (hlt3 hrow)).keepF K37.out hxF⟩
      have h1 : (cur.toList.take (m3 * 1))[i]? = some (.slice spl l.length cl) := by rw [ht]; exact hmm
      rw [List.getElem?_take_of_lt (by omega)] at h1
      simpa using h1)
  clear hB2 hlt3 hxF
  go_loopw [10] (fun i wr => OwRel1 W B2 x V R st s1 s2 s3 m1 m2 m3 m1 i wr) (fun i _ => m1 - (Go.RowKit.intOf i).toNat)
  case atStart => exact ⟨0, rfl, Nat.zero_le _, OA.out, PS1.out, PS2.out, SS3.out⟩
  case round =>
    obtain ⟨k, rfl, hk, hoa, hp1, hp2, hs3⟩ := hrel
    have HOA := Lib.hid hoa
    have HP1 := Lib.hid hp1
    have HP2 := Lib.hid hp2
    have HS3 := Lib.hid hs3
    clear hoa hp1 hp2 hs3
    by_cases hlt : k < m1
    · obtain ⟨g, cur, rfl, hgA, hgB, hg, hcs⟩ : ∃ (g : Nat) (cur : Array Value), s1 = some ⟨g, 0, none⟩ ∧ W.heap.size ≤ g ∧ g < B2 ∧ wr.heap[g]? = some (.cells cur 54 (0, 0)) ∧ m1 * 33 ≤ cur.size := by
        rcases HP1.out with h | h
        · omega
        · exact h
      have HG := Lib.hid hg
      have HF : Hid (k * 33 + (pkCells P0).length ≤ cur.size) := Lib.hid (by rw [pkCells_len P0 rfl]; omega)
      have j0 : (0 : Int) ≤ (k : Int) := by omega
      have j1 : (k : Int) < (m1 : Int) := by omega
      have jb : (m1 : Int) ≤ 8 := by omega
      clear hg hcs
      go_wp2_with (first
        | (refine wpList_build_run rfl 54 #[(1, .const (.string ⟨#[99, 104, 97, 110, 103, 101, 100]⟩))] rfl #[(1, .string chgS)] (by simp only [List.map_toArray, List.map_cons, List.map_nil]; rfl) _ built54z ?_)
        | (refine wpList_storeM rfl 54 (.tmp 46) (.tmp 45) rfl g (k * 33) (pkCells P0) rfl rfl 54 cur HG.out HF.out HI54.out (pk_one P0) ?_; intro u' cur' hu' hs' ku'; have HU := Lib.hid hu'; have HSZ := Lib.hid hs'; have KU := Lib.hid ku'; clear hu' hs' ku'))
      go_roundw
      case rel => exact ⟨k + 1, by simp, by omega, HOA.out.store KU.out hgA hgB, HP1.out.keep KU.out HG.out HU.out HSZ.out, HP2.out.keep KU.out HG.out HU.out HSZ.out, HS3.out.keep (by decide) KU.out HG.out HU.out HSZ.out⟩
      case measure => simp [Go.RowKit.intOf]; omega
    · have hkm : k = m1 := by omega
      subst hkm
      go_wp2_with fail
      go_loopw [11] (fun i wr => OwRel1 W B2 x V R st s1 s2 s3 k m2 m3 m2 i wr) (fun i _ => m2 - (Go.RowKit.intOf i).toNat)
      case atStart => exact ⟨0, rfl, Nat.zero_le _, HOA.out, HP1.out, HP2.out, HS3.out⟩
      case round =>
        obtain ⟨k2, rfl, hk2, hoa, hp1, hp2, hs3⟩ := hrel
        have HOA := Lib.hid hoa
        have HP1 := Lib.hid hp1
        have HP2 := Lib.hid hp2
        have HS3 := Lib.hid hs3
        clear hoa hp1 hp2 hs3
        by_cases hlt : k2 < m2
        · obtain ⟨g, cur, rfl, hgA, hgB, hg, hcs⟩ : ∃ (g : Nat) (cur : Array Value), s2 = some ⟨g, 0, none⟩ ∧ W.heap.size ≤ g ∧ g < B2 ∧ wr.heap[g]? = some (.cells cur 54 (0, 0)) ∧ m2 * 33 ≤ cur.size := by
            rcases HP2.out with h | h
            · omega
            · exact h
          have HG := Lib.hid hg
          have HF : Hid (k2 * 33 + (pkCells P0).length ≤ cur.size) := Lib.hid (by rw [pkCells_len P0 rfl]; omega)
          have j0 : (0 : Int) ≤ (k2 : Int) := by omega
          have j1 : (k2 : Int) < (m2 : Int) := by omega
          have jb : (m2 : Int) ≤ 8 := by omega
          clear hg hcs
          go_wp2_with (first
            | (refine wpList_build_run rfl 54 #[(1, .const (.string ⟨#[99, 104, 97, 110, 103, 101, 100]⟩))] rfl #[(1, .string chgS)] (by simp only [List.map_toArray, List.map_cons, List.map_nil]; rfl) _ built54z ?_)
            | (refine wpList_storeM rfl 54 (.tmp 56) (.tmp 55) rfl g (k2 * 33) (pkCells P0) rfl rfl 54 cur HG.out HF.out HI54.out (pk_one P0) ?_; intro u' cur' hu' hs' ku'; have HU := Lib.hid hu'; have HSZ := Lib.hid hs'; have KU := Lib.hid ku'; clear hu' hs' ku'))
          go_roundw
          case rel => exact ⟨k2 + 1, by simp, by omega, HOA.out.store KU.out hgA hgB, HP1.out.keep KU.out HG.out HU.out HSZ.out, HP2.out.keep KU.out HG.out HU.out HSZ.out, HS3.out.keep (by decide) KU.out HG.out HU.out HSZ.out⟩
          case measure => simp [Go.RowKit.intOf]; omega
        · have hkm : k2 = m2 := by omega
          subst hkm
          go_wp2_with fail
          go_loopw [12] (fun i wr => OwRel3 W B2 x V R st s3 m3 i wr) (fun i _ => m3 - (Go.RowKit.intOf i).toNat)
          case atStart => exact ⟨0, rfl, Nat.zero_le _, HOA.out, HS3.out⟩
          case round =>
            obtain ⟨k3, rfl, hk3, hoa, hs3⟩ := hrel
            have HOA := Lib.hid hoa
            have HS3 := Lib.hid hs3
            clear hoa hs3
            by_cases hlt : k3 < m3
            · obtain ⟨gs, cur, rfl, hgA, hgB, hg, hcs, hrows⟩ : ∃ (g : Nat) (cur : Array Value), s3 = some ⟨g, 0, none⟩ ∧ W.heap.size ≤ g ∧ g < B2 ∧ wr.heap[g]? = some (.cells cur 40 (0, 0)) ∧ m3 ≤ cur.size ∧ ∀ i, i < m3 → ∃ spl l c, cur[i]? = some (.slice spl l c) ∧ l ≤ 5864062014805 ∧ PShape W.heap.size B2 wr spl l 42 3 := by
                rcases HS3.out with h | h
                · omega
                · exact h
              have HG := Lib.hid hg
              have HRW := Lib.hid hrows
              obtain ⟨spl, ll, cl, hci, hllb, _⟩ := hrows k3 hlt
              have HCI := Lib.hid hci
              have j0 : (0 : Int) ≤ (k3 : Int) := by omega
              have j1 : (k3 : Int) < (m3 : Int) := by omega
              have jb : (m3 : Int) ≤ 5 := by omega
              obtain ⟨wO, rfl⟩ : ∃ y, y = wr := ⟨_, rfl⟩
              clear hg hrows hci
              go_wp2_with fail
              go_loopw [13] (fun i wr => OwRel2 W B2 x V R st gs cur m3 ll i wr) (fun i _ => ll - (Go.RowKit.intOf i).toNat)
              case atStart => exact ⟨0, rfl, Nat.zero_le _, HOA.out, HG.out, HRW.out⟩
              case round =>
                obtain ⟨k4, rfl, hk4, hoa, hg, hrw⟩ := hrel
                have HOA := Lib.hid hoa
                have HG := Lib.hid hg
                have HRW := Lib.hid hrw
                have hc3 : wr.cell? ⟨gs, k3, none⟩ = some (.slice spl ll cl) := by rw [cell_of_row _ _ _ _ _ _ hg]; exact HCI.out
                have hf3 := frozen_of_row _ gs k3 _ _ hg
                clear hoa hg hrw
                by_cases hlt4 : k4 < ll
                · obtain ⟨g, cu, rfl, hgA4, hgB4, hg4, hcs4⟩ : ∃ (g : Nat) (cu : Array Value), spl = some ⟨g, 0, none⟩ ∧ W.heap.size ≤ g ∧ g < B2 ∧ wr.heap[g]? = some (.cells cu 42 (0, 0)) ∧ ll * 3 ≤ cu.size := by
                    obtain ⟨spl', l', c', h1, _, h2⟩ := HRW.out k3 hlt
                    rw [HCI.out] at h1
                    cases h1
                    rcases h2 with h | h
                    · omega
                    · exact h
                  have HG4 := Lib.hid hg4
                  have HF4 : Hid (k4 * 3 + (bhCells ⟨2, 0, 0⟩).length ≤ cu.size) := Lib.hid (by rw [bhCells_len]; omega)
                  have HI42 : Hid ((Try.prog.info? 42).map (·.size) = some (bhCells ⟨2, 0, 0⟩).length) := Lib.hid ((by kernel_rfl : (Try.prog.info? 42).map (·.size) = some 3).trans rfl)
                  have ONE : Hid (∀ v ∈ bhCells ⟨2, 0, 0⟩, v.oneCell' = true) := Lib.hid (by intro u hu; simp [bhCells] at hu; rcases hu with rfl | rfl | rfl <;> rfl)
                  have i0 : (0 : Int) ≤ (k4 : Int) := by omega
                  have i1 : (k4 : Int) < (ll : Int) := by omega
                  have ib : (ll : Int) ≤ 5864062014805 := by omega
                  clear hg4 hcs4
                  go_wp2_with (refine wpList_storeM rfl 42 (.tmp 78) (.tmp 77) rfl g (k4 * 3) (bhCells ⟨2, 0, 0⟩) rfl rfl 42 cu HG4.out HF4.out HI42.out ONE.out ?_; intro u' cur' hu' hs' ku'; have HU := Lib.hid hu'; have HSZ := Lib.hid hs'; have KU := Lib.hid ku'; clear hu' hs' ku')
                  have hne : gs ≠ g := by
                    intro e
                    have h1 := HG.out
                    rw [e, HG4.out] at h1
                    injection h1 with h1
                    injection h1 with _ h1
                    exact absurd h1 (by decide)
                  have hcell' : u'.cell? ⟨gs, k3, none⟩ = some (.slice (some ⟨g, 0, none⟩) ll cl) := by rw [cell_of_row _ _ _ _ _ _ (KU.out.heap HG.out hne)]; exact HCI.out
                  clear hc3 hf3
                  go_roundw
                  case rel => exact ⟨k4 + 1, by simp, by omega, HOA.out.store KU.out hgA4 hgB4, KU.out.heap HG.out hne, fun i hi => by
                    obtain ⟨spl', l', c', h1, h0, h2⟩ := HRW.out i hi
                    exact ⟨spl', l', c', h1, h0, h2.keep KU.out HG4.out HU.out HSZ.out⟩⟩
                  case measure => simp [Go.RowKit.intOf]; omega
                · have hkl : k4 = ll := by omega
                  subst hkl
                  go_wp2_with fail
                  have hset := heap_setCell_same wr gs k3 cur 40 (.slice none 0 0) HG.out
                  have kset : Kp (fun q => q = gs) wr (wr.setCell ⟨gs, k3, none⟩ (.slice none 0 0)) := Kp.setCell wr (a := ⟨gs, k3, none⟩) _ rfl
                  generalize wr.setCell ⟨gs, k3, none⟩ (.slice none 0 0) = wZ at hset kset ⊢
                  clear hc3 hf3
                  go_roundw
                  case rel => exact ⟨k3 + 1, by simp, by omega, HOA.out.store kset hgA hgB, .inr ⟨gs, _, rfl, hgA, hgB, hset, by simpa using hcs, fun i hi => by
                    by_cases hik : i = k3
                    · subst hik
                      exact ⟨none, 0, 0, by rw [Array.getElem?_setIfInBounds, if_pos rfl, if_pos (by omega)], Nat.zero_le _, .inl rfl⟩
                    · obtain ⟨spl', l', c', h1, h0, h2⟩ := HRW.out i hi
                      exact ⟨spl', l', c', by rw [Array.getElem?_setIfInBounds_ne (fun e => hik e.symm)]; exact h1, h0, h2.keep kset HG.out hset (by simp)⟩⟩⟩
                  case measure => simp [Go.RowKit.intOf]; omega
            · have hkm : k3 = m3 := by omega
              subst hkm
              go_wp2_with fail
              go_loopw [14] (fun i wr => PlRel W x n 30 i wr) (fun i _ => n - (Go.RowKit.intOf i).toNat)
              case atStart => exact ⟨0, V, R, st, rfl, Nat.zero_le _, Nat.zero_le _, HOA.out.la, by rw [HS0.out]; exact Nat.le_refl _⟩
              case round =>
                obtain ⟨k, V1, R1, s1', rfl, hk, hk30, hla, hsn⟩ := hrel
                have HL := Lib.hid hla
                clear hla
                by_cases hlt : k < n
                · by_cases h30 : k < 30
                  · obtain ⟨ac, hac⟩ : ∃ a, L[k]? = some a := ⟨_, List.getElem?_eq_getElem (by rw [← HN.out]; exact hlt)⟩
                    obtain ⟨g, o, rfl, hr⟩ := HSRC.out.2 (by omega)
                    have RA : Hid (W.rangeAt g (o + k * 4) (acCells ac)) := Lib.hid (rangeAt_flat acCells 4 L hr k ac (fun _ _ => rfl) hac)
                    have hgW : Hid (g < W.heap.size) := Lib.hid (rangeAt_lt RA.out (by rw [acCells_len]; decide))
                    have RB : Hid (wr.rangeAt g (o + k * 4) (acCells ac)) := Lib.hid (rangeAt_kp RA.out HL.out.k (by have := hgW.out; show ¬ W.heap.size ≤ g; omega))
                    have HI35 := Lib.hid (info35s ac)
                    have j0 : (0 : Int) ≤ (k : Int) := by omega
                    have j1 : (k : Int) < (n : Int) := by omega
                    have j30 : (k : Int) < 30 := by omega
                    have RX := Lib.hid (range_of_heap HL.out.dx)
                    clear hac hr
                    go_wp2_with fail
                    refine wp_region_held_drew (S := fun u => u.rangeAt x 0 [.pointer (some ⟨V1.b, 0, none⟩), .pointer (some ⟨R1.b, 0, none⟩)] ∧ u.rangeAt g (o + k * 4) (acCells ac)) (by kernel_rfl) (⟨RX.out, RB.out⟩) (fun hHeld => ?_)
                    refine wpAnyH_take (i := 0) (v := _) rfl (by kernel_rfl) (by kernel_rfl) (by kernel_rfl) (fun _ _ _ h => h) (yieldsIf_load_mid (by rfl) _ _ rfl _ _ rfl _ _ (fun _ h => h.1) Try.underlying31 rfl (by kernel_rfl)) (by assumption) ?_
                    simp only [Act.put, List.getElem_toArray, List.getElem_cons_succ, List.getElem_cons_zero, List.setIfInBounds_toArray, List.set_cons_zero, List.set_cons_succ]
                    refine wpAnyH_take (i := 1) (v := ?v1) rfl (by kernel_rfl) (by kernel_rfl) (by kernel_rfl) (fun _ _ _ h => h) (Or.inl ⟨by rfl, ?y1⟩) (by assumption) ?r1
                    case y1 =>
                      intro wq hSw
                      clear hSw
                      go_simp
                      with_reducible rfl
                    simp only [Act.put, List.getElem_toArray, List.getElem_cons_succ, List.getElem_cons_zero, List.setIfInBounds_toArray, List.set_cons_zero, List.set_cons_succ]
                    refine wpAnyH_take (i := 2) (v := ?v2) rfl (by kernel_rfl) (by kernel_rfl) (by kernel_rfl) (fun _ _ _ h => h) (Or.inl ⟨by rfl, ?y2⟩) (by assumption) ?r2
                    case y2 =>
                      intro wq hSw
                      clear hSw
                      go_simp
                      with_reducible rfl
                    simp only [Act.put, List.getElem_toArray, List.getElem_cons_succ, List.getElem_cons_zero, List.setIfInBounds_toArray, List.set_cons_zero, List.set_cons_succ]
                    refine wpAnyH_take (i := 3) (v := ?v3) rfl (by kernel_rfl) (by kernel_rfl) (by kernel_rfl) (fun _ _ _ h => h) (Or.inl ⟨by rfl, ?y3⟩) (by assumption) ?r3
                    case y3 =>
                      intro wq hSw
                      clear hSw
                      go_simp
                      with_reducible rfl
                    simp only [Act.put, List.getElem_toArray, List.getElem_cons_succ, List.getElem_cons_zero, List.setIfInBounds_toArray, List.set_cons_zero, List.set_cons_succ]
                    refine wpAnyH_take (i := 4) (v := _) rfl (by kernel_rfl) (by kernel_rfl) (by kernel_rfl) (fun _ _ _ h => h) (yieldsIf_load_mid (by rfl) _ _ rfl _ _ rfl _ _ (fun _ h => h.2) Try.underlying35 rfl HI35.out) (by assumption) ?_
                    simp only [Act.put, List.getElem_toArray, List.getElem_cons_succ, List.getElem_cons_zero, List.setIfInBounds_toArray, List.set_cons_zero, List.set_cons_succ]
                    refine wpAnyH_ready (rs := [5]) (by kernel_rfl) (by simp) ?_
                    refine AllReadyH.cons rfl (fun K hK => ?_) AllReadyH.nil
                    rw [if_pos (by rfl)]
                    go_simp
                    refine (do_act (HL.out.keep0 (Kp.drew _ _)).d ac (by omega)).mono ?_
                    rintro e w5 ⟨rfl, vr5, vr6, hd5, k5⟩
                    have L5 := Lib.hid ((HL.out.keep0 (Kp.drew _ _)).act hd5 k5)
                    have RB5 := Lib.hid (rangeAt_kp RA.out L5.out.k (by have := hgW.out; show ¬ W.heap.size ≤ g; omega))
                    clear hd5 k5
                    dsimp only
                    refine hK.out _ _ (⟨range_of_heap L5.out.dx, RB5.out⟩) (fun hHeld => ?_)
                    clear hK K
                    refine wpAnyH_take (i := 6) (v := ?v4) rfl (by kernel_rfl) (by kernel_rfl) (by kernel_rfl) (fun _ _ _ h => h) (Or.inl ⟨by rfl, ?y4⟩) (by assumption) ?r4
                    case y4 =>
                      intro wq hSw
                      clear hSw
                      go_simp
                      with_reducible rfl
                    simp only [Act.put, List.getElem_toArray, List.getElem_cons_succ, List.getElem_cons_zero, List.setIfInBounds_toArray, List.set_cons_zero, List.set_cons_succ]
                    refine wpAnyH_done (by kernel_rfl) ?_ _
                    go_wp2_with fail
                    go_roundw
                    case rel => exact ⟨k + 1, _, _, doS s1' ac, by simp, by omega, by omega, L5.out, by have := doS_n s1' ac; omega⟩
                    case measure => simp [Go.RowKit.intOf]; omega
                  · have h33 : k = 30 := by omega
                    subst h33
                    clear h30
                    go_wp2_with fail
                    go_ret
                    exact ⟨rfl, HL.out.k⟩
                · have hjn : k = n := by omega
                  subst hjn
                  go_wp2_with fail
                  go_ret
                  exact ⟨rfl, HL.out.k⟩

end Go.Proofs.Ytlkamfmepjddkaa
