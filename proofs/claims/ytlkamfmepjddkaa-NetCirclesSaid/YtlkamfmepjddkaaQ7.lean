/- Walk: sanity, the examples of the chapter. -/
import Derived.Test.YtlkamfmepjddkaaQ6
set_option linter.unusedSimpArgs false
set_option linter.unusedVariables false
namespace Go.Proofs.Ytlkamfmepjddkaa
open Go.RowKit Go.Lib Go.Maps

def abcS : ByteArray := ⟨#[97, 98, 99]⟩
def accS : ByteArray := ⟨#[97, 99, 99]⟩
def P7 : Pk := ⟨hashK 7, abcS⟩
def S7 : List Bh := [⟨1, 5, 0⟩, ⟨7, 2, 1⟩, ⟨2, 0, 0⟩]
def e0 : NS := initS [P7] [] [S7]
def e1 : NS := askS e0 10 0 (hashK 7)
def e2 : NS := askS e1 11 0 (hashK 7)
def e3 : NS := askS e2 12 0 (hashK 7)
def e4 : NS := askS e3 12 1 (hashK 7)
def e5 : NS := nextS e4
def e6 : NS := nextS e5
theorem v0 : (e0.n : Int) + 1 = 1 := by kernel_rfl
theorem v1 : (e1.n : Int) + 1 = 2 := by kernel_rfl
theorem v2 : (e2.n : Int) + 1 = 3 := by kernel_rfl
theorem v3 : (e3.n : Int) + 1 = 4 := by kernel_rfl
theorem v4 : e4.replies.length = 2 := by kernel_rfl
theorem v5 : nextR e4 = ⟨2, 0, 13, accS⟩ := by kernel_rfl
theorem v5b : nextB e4 = true := by kernel_rfl
theorem v6 : nextR e5 = ⟨1, 0, 15, abcS⟩ := by kernel_rfl
theorem v6b : nextB e5 = true := by kernel_rfl
theorem v7b : nextB e6 = false := by kernel_rfl
theorem n0 : e0.n < 100000 := by decide +kernel
theorem n1 : e1.n < 100000 := by decide +kernel
theorem n2 : e2.n < 100000 := by decide +kernel
theorem n3 : e3.n < 100000 := by decide +kernel

theorem e0_ok : NOk e0 where
  hp := by intro p hp; have : p = P7 := by simpa [e0, initS] using hp
           subst this; exact ⟨rfl, by decide⟩
  ho := by intro p hp; simp [e0, initS] at hp
  lp := by decide
  lo := by decide
  la := rfl
  ls := by decide
  hs := by
    intro l hl
    have : l = S7 := by simpa [e0, initS] using hl
    subst this
    refine ⟨by decide, fun x hx => ?_⟩
    simp only [S7, List.mem_cons, List.not_mem_nil, or_false] at hx
    rcases hx with rfl | rfl | rfl <;> decide
  ha := by intro k hk; have : k = 0 := by simpa [e0, initS] using hk
           subst this; exact Nat.zero_le _
  hn := by decide
  lr := by decide

theorem built46z (c : UInt8) : Try.prog.built 46 [(1, .agg (byteCells (hashK c)).toArray)] = some (reqL 0 (hashK c)).toArray := by kernel_rfl
theorem info44s : (Try.prog.info? 44).map (·.size) = some 32 := by kernel_rfl
theorem byteCells_one (l : List UInt8) : ∀ v ∈ byteCells l, v.oneCell' = true := by
  intro v hv
  obtain ⟨b, _, rfl⟩ := List.mem_map.1 hv
  rfl

theorem wpList_alloc44 {w : World} {ops : Array Oper} {rest : List Oper} {o : Oper} {a : Act} {Q : Exit → Act → World → Prop} (hgd : o.guard = none) (ho : o.op = .alloc 44)
    (h : ∀ g w' (z : Array Value), z.size = 32 → w'.heap[g]? = some (.cells z 44 (0, 0)) → g = w.heap.size → w'.heap.size = g + 1 → Kp (fun _ => False) w w' → wpList Try.prog ops Q rest (a.put o.dst (.pointer (some ⟨g, 0, none⟩))) w') : wpList Try.prog ops Q (o :: rest) a w := by
  refine wpList_plain hgd fun K hK => ?_
  unfold Oper.wp execOp
  simp only [ho]
  go_simp
  exact hK _ _ (h _ _ _ rfl (heap_alloc_new w _) rfl (by simp) (Kp.alloc _ _ _))
theorem wpList_store44 {w : World} {ops : Array Oper} {rest : List Oper} {o : Oper} {a : Act} {Q : Exit → Act → World → Prop} (hgd : o.guard = none) (x y : Operand) (ho : o.op = .store 44 x y) (g : Nat) (c : List UInt8) (hc : c.length = 32) (hx : a.eval x = .pointer (some ⟨g, 0, none⟩)) (hy : a.eval y = .agg (byteCells c).toArray)
    (z : Array Value) (hg : w.heap[g]? = some (.cells z 44 (0, 0))) (hz : z.size = 32)
    (h : ∀ w', w'.heap[g]? = some (.cells (byteCells c).toArray 44 (0, 0)) → Kp (fun k => k = g) w w' → wpList Try.prog ops Q rest (a.put o.dst undef) w') : wpList Try.prog ops Q (o :: rest) a w := by
  refine wpList_store_row hgd 44 x y ho g (byteCells c).toArray hx hy 44 z hg (info44s.trans (by simp [byteCells_length, hc])) (by simp [hz, byteCells_length, hc]) (all_oneCell_toArray (byteCells_one c)) (h _ (heap_setRow_same w g z _ 44 hg) ?_)
  exact Kp.grown (grownBy_setRow w g _) fun k e => (Option.some.inj e).symm

theorem wpList_load_midG {P : Program} {ops : Array Oper} {rest : List Oper} {op : Oper} {a : Act} {w : World} {Q : Exit → Act → World → Prop} (hw : Region.wanted op (yielded ops a.tmps) = true) (ty : TypeId) (x : Operand) (ho : op.op = .load ty x)
    (b o : Nat) (hx : a.eval x = .pointer (some ⟨b, o, none⟩)) (cs : List Value) (d : TypeDesc) (hc : w.rangeAt b o cs)
    (hu : P.underlying ty = some d) (hd : d.isRow = true) (hi : (P.info? ty).map (·.size) = some cs.length)
    (h : wpList P ops Q rest (a.put op.dst (.agg cs.toArray)) w) : wpList P ops Q (op :: rest) a w :=
  wpList_step fun K hK => by rw [if_pos hw]; exact wp_load_mid ty x ho b o hx cs d hc hu hd hi (hK _ _ h)
theorem wpList_build_runG {P : Program} {w : World} {ops : Array Oper} {rest : List Oper} {o : Oper} {a : Act} {Q : Exit → Act → World → Prop} (hw : Region.wanted o (yielded ops a.tmps) = true) (T : TypeId) (parts : Array (Nat × Operand)) (ho : o.op = .build T parts) (vs : Array (Nat × Value))
    (h1 : parts.map (fun (i, x) => (i, a.eval x)) = vs) (cs : Array Value) (hr : P.built T vs.toList = some cs) (h : wpList P ops Q rest (a.put o.dst (.agg cs)) w) : wpList P ops Q (o :: rest) a w :=
  wpList_step fun K hK => by
    rw [if_pos hw]
    unfold Oper.wp execOp
    simp only [ho, h1, Sem.run_bind, Sem.run_pure, Result.andThen_ok, run_build w T vs cs hr]
    exact hK _ _ h

/-- What sanity keeps. -/
structure SX (w u : World) (V : NV) (s : NS) (gh gq : Nat) : Prop where
  n : NetP u w.heap.size V s
  gh : u.heap[gh]? = some (.cells (byteCells (hashK 7)).toArray 44 (0, 0))
  gq : u.heap[gq]? = some (.cells (reqL 0 (hashK 7)).toArray 46 (0, 0))
  k : Kp (fun k => w.heap.size ≤ k) w u
theorem SX.keep0 {w u u' : World} {V : NV} {s : NS} {gh gq : Nat} (h : SX w u V s gh gq) (hk : Kp (fun _ => False) u u') : SX w u' V s gh gq :=
  ⟨h.n.keep0 hk, hk.heap h.gh (fun h => h), hk.heap h.gq (fun h => h), h.k.trans hk fun _ h => h.elim⟩
theorem SX.step {w u u' : World} {V : NV} {s s' : NS} {gh gq : Nat} {vr : Value} (h : SX w u V s gh gq) (hn : NetP u' w.heap.size { V with vr := vr } s') (hk : Kp V.foot u u') : SX w u' { V with vr := vr } s' gh gq :=
  ⟨hn, hk.heap h.gh (h.n.not_foot h.gh (by decide) (by decide) (by decide)), hk.heap h.gq (h.n.not_foot h.gq (by decide) (by decide) (by decide)), h.k.trans hk fun k hf => .inl (h.n.dom_lt (NV.foot_dom hf)).1⟩
theorem SX.rq {w u : World} {V : NV} {s : NS} {gh gq : Nat} (h : SX w u V s gh gq) : u.rangeAt gq 0 (reqL 0 (hashK 7)) := range_of_heap h.gq
theorem SX.rh {w u : World} {V : NV} {s : NS} {gh gq : Nat} (h : SX w u V s gh gq) : u.rangeAt gh 0 (byteCells (hashK 7)) := range_of_heap h.gh

theorem ask_at {w : World} {B : Nat} {V : NV} {st : NS} (h : NetP w B V st) (now mir : Int) (hs : List UInt8) (hh : hs.length = 32) (c : Int) (hc : (st.n : Int) + 1 = c) (hn : st.n < 100000) (hnow : -1000000 ≤ now ∧ now ≤ 1000000) :
    Calls Try.prog 16 #[.pointer (some ⟨V.b, 0, none⟩), .int .i64 now, .agg (reqL mir hs).toArray] w (AskPost w B V (askS st now mir hs) (.int .i64 c)) := by rw [← hc]; exact ask_any h now mir hs hh hn hnow
theorem nextE_at {w : World} {B : Nat} {V : NV} {st : NS} (h : NetP w B V st) (r : Rp) (b : Bool) (hr : nextR st = r) (hb : nextB st = b) :
    Calls Try.prog 17 #[.pointer (some ⟨V.b, 0, none⟩)] w (AskPost w B V (nextS st) (.tuple #[rpV r, .bool b])) := by rw [← hr, ← hb]; exact next_real h
theorem waiting_at {w : World} {B : Nat} {V : NV} {s : NS} (h : NetP w B V s) (c : Int) (hc : (s.replies.length : Int) = c) : Calls Try.prog 18 #[.pointer (some ⟨V.b, 0, none⟩)] w fun e w' => e = .returned (.int .i64 c) ∧ w = w' := by rw [← hc]; exact waiting_any h

def SaneP (w : World) (e : Ending) (w' : World) : Prop := e = .returned (.bool true) ∧ Kp (fun _ => False) w w'

set_option maxRecDepth 100000 in
set_option maxHeartbeats 4000000 in
theorem sanity_any (w : World) : Calls Try.prog 10 #[] w (SaneP w) := by
  have HI44 : Hid ((Try.prog.info? 44).map (·.size) = some (byteCells (hashK 7)).length) := Lib.hid info44s
  have HI46 : Hid ((Try.prog.info? 46).map (·.size) = some (reqL 0 (hashK 7)).length) := Lib.hid info46s
  go_enter Try.func10, Try.ntmps10
  go_wp2_with (first
    | (refine wpList_build_run rfl 44 #[(0, .const (.int .u8 7))] rfl #[(0, .int .u8 7)] (by simp only [List.map_toArray, List.map_cons, List.map_nil]; rfl) _ (built44 7) ?_)
    | (refine wpList_alloc44 rfl rfl ?_; intro gh u1 z1 hz1 hg1 eg1 sg1 k1; have HZ1 := Lib.hid hz1; have HG1 := Lib.hid hg1; have K1 := Lib.hid k1; have EG1 := Lib.hid eg1; clear hz1 hg1 eg1 sg1 k1)
    | (refine wpList_store44 rfl (.tmp 1) (.tmp 11) rfl gh (hashK 7) rfl rfl rfl z1 HG1.out HZ1.out ?_; intro u2 hg2 k2; have GH2 := Lib.hid hg2; have K2 : Hid (Kp (fun _ => False) w u2) := Lib.hid ((K1.out.zero.trans k2 fun q h => .inl h : Kp (fun q => q = gh) w u2).mono fun q h => .inr (by have := EG1.out; omega)); clear hg2 k2)
    | (refine wpList_load_mid rfl 44 (.tmp 1) rfl gh 0 rfl (byteCells (hashK 7)) _ (range_of_heap GH2.out) Try.underlying44 rfl HI44.out ?_)
    | (refine wpList_build_run rfl 54 #[(0, .tmp 12), (1, .const (.string ⟨#[97, 98, 99]⟩))] rfl #[(0, .agg (byteCells (hashK 7)).toArray), (1, .string abcS)] (by simp only [List.map_toArray, List.map_cons, List.map_nil]; rfl) _ (built54 7 abcS) ?_)
    | (refine wpList_lit37 rfl (.tmp 13) rfl (pkCells P7) rfl (pkCells_len _ rfl) ?_; intro g3 u3 hg3 eg3 sg3 k3; have GP3 := Lib.hid hg3; have K3 := Lib.hid (K2.out.trans k3 fun _ h => h.elim); have GH3 := Lib.hid (k3.heap GH2.out (fun h => h)); clear hg3 eg3 sg3 k3))
  obtain ⟨gs, hgs⟩ : ∃ g, g = u3.heap.size := ⟨_, rfl⟩
  rw [← hgs]
  obtain ⟨u4, hu4⟩ : ∃ u, u = (u3.alloc (.cells #[.int .i64 1, .int .i64 5, .int .i64 0, .int .i64 7, .int .i64 2, .int .i64 1, .int .i64 2, .int .i64 0, .int .i64 0] 42)).alloc (.cells #[.slice (some ⟨gs, 0, none⟩) 3 3] 40) := ⟨_, rfl⟩
  rw [← hu4]
  have k4 : Kp (fun _ => False) u3 u4 := by rw [hu4]; exact (Kp.alloc _ _ _).trans (Kp.alloc (fun _ => False) _ _) fun _ h => h.elim
  have ha4 : u4.heap[gs]? = some (.cells (bhs S7).toArray 42 (0, 0)) := by rw [hu4, hgs]; exact heap_alloc2_old u3 _ _
  have hb4 : u4.heap[gs + 1]? = some (.cells #[.slice (some ⟨gs, 0, none⟩) 3 3] 40 (0, 0)) := by rw [hu4, hgs]; exact heap_alloc2_new u3 _ _
  have K4 : Hid (Kp (fun _ => False) w u4) := Lib.hid (K3.out.trans k4 fun _ h => h.elim)
  have GH4 := Lib.hid (k4.heap GH3.out (fun h => h))
  have SP : Hid (Src u4 33 (some ⟨g3, 0, none⟩) [P7].length (pks [P7])) := Lib.hid ⟨rfl, fun _ => ⟨g3, 0, rfl, by
    have := range_of_heap (k4.heap GP3.out (fun h => h))
    simpa [pks] using this⟩⟩
  have SS : Hid (ScrSrc u4 (some ⟨gs + 1, 0, none⟩) [.slice (some ⟨gs, 0, none⟩) 3 3] [S7]) := Lib.hid ⟨⟨rfl, fun _ => ⟨gs + 1, 0, rfl, range_of_heap hb4⟩⟩, fun i m l hm hl => by
    match i, hm, hl with
    | 0, hm, hl =>
      simp at hm hl
      subst hm hl
      exact ⟨_, 3, rfl, rfl, fun _ => ⟨gs, 0, rfl, range_of_heap ha4⟩⟩
    | i + 1, hm, _ => simp at hm⟩
  clear hu4 ha4 hb4 k4 hgs
  refine (news_any u4 [P7] [] [S7] (some ⟨g3, 0, none⟩) none (some ⟨gs + 1, 0, none⟩) 1 0 1 1 0 1 rfl rfl rfl _ SP.out (Src.nil _ _ _) SS.out e0_ok).mono ?_
  rintro e u5 ⟨V, rfl, hV, k5⟩
  dsimp only
  have N5 : Hid (NetP u5 w.heap.size V e0) := Lib.hid (hV.down K4.out.size)
  have K5 : Hid (Kp (fun _ => False) w u5) := Lib.hid (K4.out.trans k5 fun _ h => h.elim)
  have GH5 := Lib.hid (k5.heap GH4.out (fun h => h))
  clear hV k5
  go_wp2_with (first
    | (refine wpList_load_mid rfl 44 (.tmp 1) rfl gh 0 rfl (byteCells (hashK 7)) _ (range_of_heap GH5.out) Try.underlying44 rfl HI44.out ?_)
    | (refine wpList_build_run rfl 46 #[(1, .tmp 23)] rfl #[(1, .agg (byteCells (hashK 7)).toArray)] (by simp only [List.map_toArray, List.map_cons, List.map_nil]; rfl) _ (built46z 7) ?_)
    | (refine wpList_alloc46 rfl rfl ?_; intro gq u6 z6 hz6 hg6 eg6 sg6 k6; have HZ6 := Lib.hid hz6; have HG6 := Lib.hid hg6; have K6 := Lib.hid k6; have EG6 := Lib.hid eg6; clear hz6 hg6 eg6 sg6 k6)
    | (refine wpList_store46 rfl (.tmp 3) (.tmp 24) rfl gq 0 (hashK 7) rfl rfl rfl z6 HG6.out HZ6.out ?_; intro u7 hg7 k7; have k57 := (K6.out.zero.trans k7 fun q h => .inl h : Kp (fun q => q = gq) u5 u7).mono (G := fun _ => False) (fun q h => .inr (by have := EG6.out; omega)); have X7 : Hid (SX w u7 V e0 gh gq) := Lib.hid ⟨N5.out.keep0 k57, k57.heap GH5.out (fun h => h), hg7, (K5.out.trans k57 fun _ (h : False) => h.elim).zero⟩; clear hg7 k7 k57)
    | (refine wpList_load_midG (by rfl) 46 (.tmp 3) rfl gq 0 rfl (reqL 0 (hashK 7)) _ X7.out.rq Try.underlying46 rfl HI46.out ?_))
  refine (ask_at X7.out.n 10 0 (hashK 7) rfl 1 v0 n0 (by omega)).mono ?_
  rintro e u8 ⟨rfl, vr8, hn8, k8, _⟩
  have X8 := Lib.hid (X7.out.step hn8 k8)
  clear hn8 k8
  dsimp only
  go_wp2_with (refine wpList_load_midG (by rfl) 46 (.tmp 3) rfl gq 0 rfl (reqL 0 (hashK 7)) _ X8.out.rq Try.underlying46 rfl HI46.out ?_)
  refine (ask_at X8.out.n 11 0 (hashK 7) rfl 2 v1 n1 (by omega)).mono ?_
  rintro e u9 ⟨rfl, vr9, hn9, k9, _⟩
  have X9 := Lib.hid (X8.out.step hn9 k9)
  clear hn9 k9
  dsimp only
  go_wp2_with (refine wpList_load_midG (by rfl) 46 (.tmp 3) rfl gq 0 rfl (reqL 0 (hashK 7)) _ X9.out.rq Try.underlying46 rfl HI46.out ?_)
  refine (ask_at X9.out.n 12 0 (hashK 7) rfl 3 v2 n2 (by omega)).mono ?_
  rintro e ua ⟨rfl, vra, hna, ka, _⟩
  have XA := Lib.hid (X9.out.step hna ka)
  clear hna ka
  dsimp only
  go_wp2_with (first
    | (refine wpList_load_midG (by rfl) 44 (.tmp 1) rfl gh 0 rfl (byteCells (hashK 7)) _ XA.out.rh Try.underlying44 rfl HI44.out ?_)
    | (refine wpList_build_runG (by rfl) 46 #[(0, .const (.int .i64 1)), (1, .tmp 43)] rfl #[(0, .int .i64 1), (1, .agg (byteCells (hashK 7)).toArray)] (by simp only [List.map_toArray, List.map_cons, List.map_nil]; rfl) _ (built46 1 7) ?_))
  refine (ask_at XA.out.n 12 1 (hashK 7) rfl 4 v3 n3 (by omega)).mono ?_
  rintro e ub ⟨rfl, vrb, hnb, kb, _⟩
  have XB := Lib.hid (XA.out.step hnb kb)
  clear hnb kb
  dsimp only
  go_wp2_with fail
  refine (waiting_at XB.out.n 2 (by have h2 : ((e4.replies.length : Nat) : Int) = 2 := by rw [v4]; rfl
                                    exact h2)).mono ?_
  rintro e w' ⟨rfl, rfl⟩
  dsimp only
  go_wp2_with fail
  refine (nextE_at XB.out.n ⟨2, 0, 13, accS⟩ true v5 v5b).mono ?_
  rintro e uc ⟨rfl, vrc, hnc, kc, _⟩
  have XC := Lib.hid (XB.out.step hnc kc)
  clear hnc kc
  dsimp only
  obtain ⟨rc, hrc⟩ : ∃ r, r = rpV ⟨2, 0, 13, accS⟩ := ⟨_, rfl⟩
  rw [← hrc]
  have HRC := Lib.hid hrc
  clear hrc
  go_wp2_with (first
    | (refine wpList_alloc50 rfl rfl ?_; intro gA ud zd hzd hgd egd sgd kd; have HZd := Lib.hid hzd; have HGd := Lib.hid hgd; have EGd := Lib.hid egd; have Kd := Lib.hid kd; clear hzd hgd egd sgd kd)
    | (refine wpList_store50 rfl (.tmp 5) (.tmp 56) rfl gA ⟨2, 0, 13, accS⟩ rfl HRC.out zd HGd.out HZd.out ?_; intro ue hge ke; have kce := (Kd.out.zero.trans ke fun q h => .inl h : Kp (fun q => q = gA) uc ue).mono (G := fun _ => False) (fun q h => .inr (by have := EGd.out; omega)); have XE := Lib.hid (XC.out.keep0 kce); have GA := Lib.hid hge; have gAn : Hid (¬ ({ V with vr := vrc } : NV).foot gA) := Lib.hid (fun hf => by have := (XC.out.n.dom_lt (NV.foot_dom hf)).2; have := EGd.out; omega); clear hge ke kce))
  refine (nextE_at XE.out.n ⟨1, 0, 15, abcS⟩ true v6 v6b).mono ?_
  rintro e uf ⟨rfl, vrf, hnf, kf, lf⟩
  have XF := Lib.hid (XE.out.step hnf kf)
  have GA2 := Lib.hid (kf.heap GA.out gAn.out)
  have gAn2 : Hid (¬ ({ V with vr := vrf } : NV).foot gA) := Lib.hid (fun hf => by
    rcases NV.foot_vr lf hf with h | h
    · exact gAn.out h
    · have := (Array.getElem?_eq_some_iff.1 GA.out).1; omega)
  clear hnf kf lf
  dsimp only
  obtain ⟨rf, hrf⟩ : ∃ r, r = rpV ⟨1, 0, 15, abcS⟩ := ⟨_, rfl⟩
  rw [← hrf]
  have HRF := Lib.hid hrf
  clear hrf
  go_wp2_with (first
    | (refine wpList_alloc50 rfl rfl ?_; intro gB ug zg hzg hgg egg sgg kg; have HZg := Lib.hid hzg; have HGg := Lib.hid hgg; have EGg := Lib.hid egg; have Kg := Lib.hid kg; clear hzg hgg egg sgg kg)
    | (refine wpList_store50 rfl (.tmp 7) (.tmp 61) rfl gB ⟨1, 0, 15, abcS⟩ rfl HRF.out zg HGg.out HZg.out ?_; intro uh hgh kh; have kfh := (Kg.out.zero.trans kh fun q h => .inl h : Kp (fun q => q = gB) uf uh).mono (G := fun _ => False) (fun q h => .inr (by have := EGg.out; omega)); have XH := Lib.hid (XF.out.keep0 kfh); have GB := Lib.hid hgh; have GA3 := Lib.hid (kfh.heap GA2.out (fun h => h)); have gBn : Hid (¬ ({ V with vr := vrf } : NV).foot gB) := Lib.hid (fun hf => by have := (XF.out.n.dom_lt (NV.foot_dom hf)).2; have := EGg.out; omega); clear hgh kh kfh))
  refine (nextE_at XH.out.n (nextR e6) false rfl v7b).mono ?_
  rintro e ui ⟨rfl, vri, hni, ki, _⟩
  have XI := Lib.hid (XH.out.step hni ki)
  have GA4 := Lib.hid (ki.heap GA3.out gAn2.out)
  have GB4 := Lib.hid (ki.heap GB.out gBn.out)
  clear hni ki
  dsimp only
  obtain ⟨ri, hri⟩ : ∃ r, r = rpV (nextR e6) := ⟨_, rfl⟩
  rw [← hri]
  have HRI := Lib.hid hri
  clear hri
  go_wp2_with (first
    | (refine wpList_alloc50 rfl rfl ?_; intro gC uj zj hzj hgj egj sgj kj; have HZj := Lib.hid hzj; have HGj := Lib.hid hgj; have EGj := Lib.hid egj; have Kj := Lib.hid kj; clear hzj hgj egj sgj kj)
    | (refine wpList_store50 rfl (.tmp 9) (.tmp 66) rfl gC (nextR e6) rfl HRI.out zj HGj.out HZj.out ?_; intro uk hgk kk; have kik := (Kj.out.zero.trans kk fun q h => .inl h : Kp (fun q => q = gC) ui uk).mono (G := fun _ => False) (fun q h => .inr (by have := EGj.out; omega)); have XK := Lib.hid (XI.out.keep0 kik); obtain ⟨a0, a1, a2, a3, _⟩ := rp4 (m := ⟨2, 0, 13, accS⟩) (kik.heap GA4.out (fun h => h)); obtain ⟨b0, b1, b2, b3, _⟩ := rp4 (m := ⟨1, 0, 15, abcS⟩) (kik.heap GB4.out (fun h => h)); dsimp only at a0 a1 a2 a3 b0 b1 b2 b3; unfold accS at a3; unfold abcS at b3; clear hgk kk kik))
  go_ret
  exact ⟨rfl, XK.out.k.mono fun q h => .inr h⟩

end Go.Proofs.Ytlkamfmepjddkaa
