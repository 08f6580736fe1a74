/- Walk: New of the net. -/
import Derived.Test.YtlkamfmepjddkaaN9
import Derived.Test.YtlkamfmepjddkaaWf
import Derived.Deep.DeepCutAuto
set_option linter.unusedSimpArgs false
set_option linter.unusedVariables false
namespace Go.Proofs.Ytlkamfmepjddkaa
open Go.RowKit Go.Lib Go.Shelf Go.Maps
attribute [local go_sem] Oper.semAt_some

theorem ks_t {S n₀ : Nat} {A B C : World} (h : KS S n₀ A B) (k : KS S n₀ B C) : KS S n₀ A C := h.trans k fun _ h => .inl h
theorem ks_b {S n₀ : Nat} {W : World} {l : Nat} {o o' : Obj} (h : n₀ ≤ l) (_ : W.heap[l]? = some o) : KS S n₀ W (W.putObj l o') :=
  Kp.grown (grownBy_putObj' W l o') fun k e => by cases e; exact .inr h

theorem opwp_store54 {w : World} {o : Oper} {a : Act} {K : Act → World → Prop} {Q : Exit → Act → World → Prop} (x y : Operand) (ho : o.op = .store 54 x y) (g : Nat) (cs : List Value) (hx : a.eval x = .pointer (some ⟨g, 0, none⟩)) (hy : a.eval y = .agg cs.toArray)
    (z : Array Value) (hg : w.heap[g]? = some (.cells z 54 (0, 0))) (hz : z.size = 33) (hl : cs.length = 33) (h1 : ∀ v ∈ cs, v.oneCell' = true)
    (h : ∀ w', w'.heap[g]? = some (.cells cs.toArray 54 (0, 0)) → Kp (fun k => k = g) w w' → K (a.put o.dst undef) w') : o.wp Try.prog a w K Q := by
  refine wp_store_row 54 x y ho g cs.toArray hx hy 54 z hg ((by kernel_rfl : (Try.prog.info? 54).map (·.size) = some 33).trans (by simp [hl])) (by simp [hz, hl]) (all_oneCell_toArray h1) (h _ (heap_setRow_same w g z cs.toArray 54 hg) ?_)
  exact Kp.grown (grownBy_setRow w g cs.toArray) fun k e => (Option.some.inj e).symm

theorem opwp_mapUpdate {w : World} {o : Oper} {a : Act} {K : Act → World → Prop} {Q : Exit → Act → World → Prop} (x y z : Operand) (ho : o.op = .mapUpdate 68 x y z) (g n : Nat) (f : List UInt8 → ByteArray) (hm : MapQ w g n f) (hn : n ≤ 100000)
    (h : List UInt8) (hl : h.length = 32) (b : ByteArray) (hb : b.size ≤ 1000) (hx : a.eval x = .map (some g)) (hy : a.eval y = .agg (byteCells h).toArray) (hz : a.eval z = .string b)
    (hK : ∀ w', w.grownBy w' (some g) → MapQ w' g (n + 1) (putF f h b) → K (a.put o.dst undef) w') : o.wp Try.prog a w K Q := by
  obtain ⟨w', hrun, hg, hq⟩ := hm.update hn h hl b hb
  unfold Oper.wp execOp
  simp only [ho, hx, hy, hz, Sem.run_bind, Sem.run_pure, Result.andThen_ok, hrun]
  exact hK w' hg hq

def pkX (P : List Pk) (N x : Nat) : Pk := P.getD (N - 1 - x % N) zeroP
def foldF (P : List Pk) (N : Nat) (pre : List Nat) : List UInt8 → ByteArray := pre.foldl (fun f x => putF f (pkX P N x).h (pkX P N x).b) (fun _ => emptyS)

theorem foldF_snoc (P : List Pk) (N : Nat) (pre : List Nat) (x : Nat) : foldF P N (pre ++ [x]) = putF (foldF P N pre) (pkX P N x).h (pkX P N x).b := by simp [foldF]
theorem foldF_range (P : List Pk) (N : Nat) (hN : N = P.length) : ∀ k, k ≤ N → ∀ h, foldF P N (List.range k) h = wantedS (P.drop (N - k)) h := by
  intro k
  induction k with
  | zero =>
    intro _ h
    rw [List.drop_of_length_le (by omega)]
    rfl
  | succ k ih =>
    intro hk h
    rw [List.range_succ, foldF_snoc]
    have hlt : N - (k + 1) < P.length := by omega
    have hd : P.drop (N - (k + 1)) = P[N - (k + 1)] :: P.drop (N - k) := by
      rw [← List.getElem_cons_drop hlt]
      congr 2
      omega
    have hp : pkX P N k = P[N - (k + 1)] := by
      unfold pkX
      rw [Nat.mod_eq_of_lt (by omega), show N - 1 - k = N - (k + 1) by omega]
      simp [List.getD, hlt]
    rw [hd, hp]
    unfold putF wantedS
    by_cases e : h = P[N - (k + 1)].h
    · rw [if_pos e, if_pos e.symm]
    · rw [if_neg e, if_neg (fun e2 => e e2.symm), ih (by omega) h]

theorem pkX_ok {P : List Pk} (hP : ∀ p ∈ P, p.h.length = 32 ∧ p.b.size ≤ 100) (N x : Nat) : (pkX P N x).h.length = 32 ∧ (pkX P N x).b.size ≤ 100 := by
  unfold pkX
  rw [List.getD_eq_getElem?_getD]
  cases e : P[N - 1 - x % N]? with
  | none => exact ⟨rfl, by decide⟩
  | some p => exact hP p (List.mem_of_getElem? e)

theorem noDefer_spec {ops : Array Oper} (h : ops.all (fun o => match o.op with | .defer _ => false | _ => true) = true) : ∀ (i : Nat) o, ops[i]? = some o → ∀ c, o.op ≠ .defer c := by
  intro i o hi c e
  obtain ⟨hlt, he⟩ := Array.getElem?_eq_some_iff.1 hi
  have := Array.all_eq_true.1 h i hlt
  rw [he, e] at this
  cases this
def OnlyN (Q : Exit → Act → World → Prop) : Exit → Act → World → Prop
  | .normal, a, w => Q .normal a w
  | _, _, _ => False
theorem onlyN_le {Q : Exit → Act → World → Prop} : ∀ e a w, OnlyN Q e a w → Q e a w := by
  intro e a w h
  cases e <;> first | exact h | exact h.elim
/-- Between two rounds. -/
def NewI (P : List Pk) (N g : Nat) (wA : World) (pre : List Nat) (W : World) : Prop := MapQ W g pre.length (foldF P N pre) ∧ Kp (fun k => k = g ∨ wA.heap.size ≤ k) wA W ∧ pre.length ≤ N
def NewA (P : List Pk) (N n₀ : Nat) (act : Nat → Nat → Act) (x : Nat) (a' : Act) (W : World) : Prop :=
  ∃ g, n₀ ≤ g ∧ a' = act x g ∧ W.heap[g]? = some (.cells (pkCells (pkX P N x)).toArray 54 (0, 0))

theorem newI_own {P : List Pk} {N g : Nat} {wA : World} (hg : g < wA.heap.size) : OwnFrom wA.heap.size (NewI P N g wA) := by
  rintro pre W W' row ⟨h1, h2, h3⟩ hgr hr
  have hk : Kp (fun k => row = some k) W W' := Kp.grown hgr fun k e => e
  refine ⟨h1.keep hk fun e => ?_, h2.trans hk fun k e => .inl (.inr (hr k e).1), h3⟩
  have := (hr g e).1
  omega
theorem newA_own {P : List Pk} {N n₀ : Nat} {act : Nat → Nat → Act} (B : Nat) (x : Nat) (a' : Act) : OwnFrom B (fun (_ : Unit) W => NewA P N n₀ act x a' W) := by
  rintro _ W W' row ⟨g, h1, h2, h3⟩ hgr hr
  refine ⟨g, h1, h2, ?_⟩
  rw [hgr.block g (Array.getElem?_eq_some_iff.1 h3).1 (fun e => ?_)]
  · exact h3
  · obtain ⟨_, o, ho, hc⟩ := hr g e.symm
    rw [h3] at ho
    cases ho
    cases hc

def NNewPost (w : World) (P O : List Pk) (S : List (List Bh)) (e : Ending) (w' : World) : Prop :=
  ∃ V : NV, e = .returned (.pointer (some ⟨V.b, 0, none⟩)) ∧ NetP w' w.heap.size V (initS P O S) ∧ Kp (fun _ => False) w w'

set_option maxRecDepth 100000 in
set_option maxHeartbeats 8000000 in
theorem new_any (w : World) (P O : List Pk) (S : List (List Bh)) (sp1 sp2 sp3 : Option Addr) (c1 c2 c3 : Nat) (sv : List Value) (h1 : Src w 33 sp1 P.length (pks P)) (h2 : Src w 33 sp2 O.length (pks O)) (h3 : Src w 1 sp3 S.length sv)
    (each : ∀ (i : Nat) m l, sv[i]? = some m → S[i]? = some l → ∃ spl cl, m = .slice spl l.length cl ∧ Src w 3 spl l.length (bhs l)) (hok : NOk (initS P O S)) :
    Calls Try.prog 14 #[.slice sp1 P.length c1, .slice sp2 O.length c2, .slice sp3 S.length c3] w (NNewPost w P O S) := by
  have hP : P.length ≤ 1000 := hok.lp
  have hO : O.length ≤ 1000 := hok.lo
  have hS : S.length ≤ 1000 := hok.ls
  have ha := own54_any w P sp1 c1 h1 (fun p hp => (hok.hp p hp).1) hP
  obtain ⟨n1, hn1⟩ : ∃ n, n = P.length := ⟨_, rfl⟩
  obtain ⟨n2, hn2⟩ : ∃ n, n = O.length := ⟨_, rfl⟩
  obtain ⟨ns, hns⟩ : ∃ n, n = S.length := ⟨_, rfl⟩
  have HOK := Lib.hid hok
  have EACH := Lib.hid each
  rw [← hn1] at h1 hP ha ⊢
  rw [← hn2] at h2 hO ⊢
  rw [← hns] at h3 hS ⊢
  have HN1 := Lib.hid hn1
  have HN2 := Lib.hid hn2
  have HNS := Lib.hid hns
  have SRC1 := Lib.hid h1
  have SRC2 := Lib.hid h2
  have SRC3 := Lib.hid h3
  have HA := Lib.hid ha
  clear hn1 hn2 hns h1 h2 h3 hok each ha
  have hmm := @run_makeMap Try.prog
  refine (callsIn_wide (n := 3)).1 ?_
  refine callsIn_of_wp_marks Try.func14 rfl trivial ?_ rfl
  simp only [Try.ntmps14, List.size_toArray, List.length_cons, List.length_nil, Nat.reduceAdd, Nat.reduceSub, Array.replicate_succ, Array.replicate_zero, List.push_toArray, List.append_toArray, List.nil_append, List.cons_append]
  refine wpIn_wide.2 ?_
  go_wp2_with fail
  refine HA.out.mono ?_
  rintro e w1 ⟨s1, d1, rfl, o1, k1⟩
  dsimp only
  have O1 := Lib.hid o1
  have K1 := Lib.hid k1
  clear o1 k1
  go_wp2_with fail
  have hb := own54_any w1 O sp2 c2 (SRC2.out.keep0 K1.out |> fun h => by rw [← HN2.out]; exact h) (fun p hp => (HOK.out.ho p hp).1) (by rw [← HN2.out]; exact hO)
  rw [← HN2.out] at hb
  refine hb.mono ?_
  rintro e w2 ⟨s2, d2, rfl, o2, k2⟩
  dsimp only
  have O2 := Lib.hid o2
  have K2 := Lib.hid k2
  clear o2 k2 hb
  go_upto_region 3 with (fail)
  clear hmm
  obtain ⟨gm, hgm⟩ : ∃ x, x = w2.heap.size := ⟨_, rfl⟩
  obtain ⟨gb, hgb⟩ : ∃ x, x = w2.heap.size + 1 := ⟨_, rfl⟩
  obtain ⟨gp, hgp⟩ : ∃ x, x = w2.heap.size + 1 + 1 := ⟨_, rfl⟩
  obtain ⟨oa, hoa⟩ : ∃ o, o = Obj.map #[] 0 := ⟨_, rfl⟩
  rw [← hgp, ← hgb, ← hgm]
  obtain ⟨wN, hwN⟩ : ∃ wN, wN = (((w2.alloc (Obj.map #[] 0)).alloc (.cells #[.slice s1 n1 d1, .slice s2 n2 d2, .map (some gm), .slice none 0 0, .int .i64 0, .slice none 0 0] 71)).alloc (.cells #[.pointer (some ⟨gb, 0, none⟩)] 28)) := ⟨_, rfl⟩
  rw [← hwN]
  have kN : Kp (fun _ => False) w2 wN := by rw [hwN]; exact ((Kp.alloc _ w2 _).trans (Kp.alloc (fun _ => False) _ _) fun _ h => h.elim).trans (Kp.alloc (fun _ => False) _ _) fun _ h => h.elim
  have KN := Lib.hid kN
  have sN : wN.heap.size = w2.heap.size + 3 := by rw [hwN]; simp
  have SN := Lib.hid sN
  have MQ : Hid (MapQ wN gm 0 (fun _ => emptyS)) := Lib.hid (by
    rw [hwN, hgm]
    exact (((MapQ.made w2).keep (Kp.alloc (fun _ => False) _ _) (fun h => h)).keep (Kp.alloc (fun _ => False) _ _) (fun h => h)))
  have HGB : Hid (wN.heap[gb]? = some (.cells #[.slice s1 n1 d1, .slice s2 n2 d2, .map (some gm), .slice none 0 0, .int .i64 0, .slice none 0 0] 71 (0, 0))) := Lib.hid (by
    rw [hwN, hgb]
    have := heap_alloc_new (w2.alloc (Obj.map #[] 0)) (.cells #[.slice s1 n1 d1, .slice s2 n2 d2, .map (some gm), .slice none 0 0, .int .i64 0, .slice none 0 0] 71)
    rw [World.size_alloc] at this
    exact (Below.heap_alloc _ _ _ (by simp)).trans this)
  have HGP : Hid (wN.heap[gp]? = some (.cells #[.pointer (some ⟨gb, 0, none⟩)] 28 (0, 0))) := Lib.hid (by
    rw [hwN, hgp]
    have := heap_alloc_new ((w2.alloc (Obj.map #[] 0)).alloc (.cells #[.slice s1 n1 d1, .slice s2 n2 d2, .map (some gm), .slice none 0 0, .int .i64 0, .slice none 0 0] 71)) (.cells #[.pointer (some ⟨gb, 0, none⟩)] 28)
    simp only [World.size_alloc] at this
    exact this)
  have HGMs := Lib.hid hgm
  have HGBs := Lib.hid hgb
  have HGPs := Lib.hid hgp
  clear hwN kN sN hgm hgb hgp hoa oa
  go_wp2_with fail
  refine (backward_any sp1 n1 c1 wN).mono ?_
  rintro e wA ⟨rfl, hwA⟩
  dsimp only
  have kA : Kp (fun _ => False) wN wA := by rw [hwA]; exact Kp.alloc _ _ _
  have KA := Lib.hid kA
  have sA : wA.heap.size = wN.heap.size + 1 := by rw [hwA]; simp
  have hA0 : wA.heap[wN.heap.size]? = some (.cells #[.slice sp1 n1 c1] 37 (0, 0)) := by rw [hwA]; exact heap_alloc_new wN _
  have bA : wA.cell? ⟨wN.heap.size, 0, none⟩ = some (.slice sp1 n1 c1) := cell_of_row _ _ 0 _ _ _ hA0
  have BA := Lib.hid bA
  have SA := Lib.hid sA
  have KWA : Hid (Kp (fun _ => False) w wA) := Lib.hid (((K1.out.trans K2.out fun _ (h : False) => h.elim).trans KN.out fun _ (h : False) => h.elim).trans kA fun _ (h : False) => h.elim)
  have KWN : Hid (Kp (fun _ => False) w wN) := Lib.hid ((K1.out.trans K2.out fun _ (h : False) => h.elim).trans KN.out fun _ (h : False) => h.elim)
  clear hwA kA hA0 bA sA
  go_wp2_with fail
  refine (wpIn_wide (n := 3)).1 ?_
  have hsw : w.heap.size ≤ w2.heap.size := by have := K1.out.size; have := K2.out.size; omega
  have hsp : ∀ k, spIn sp1 k → 0 < n1 → k < w.heap.size := fun k hk h0 => by
    obtain ⟨g, o, e, hr⟩ := SRC1.out.2 h0
    obtain ⟨o', e'⟩ := hk
    rw [e] at e'
    cases e'
    exact rangeAt_lt hr (by rw [SRC1.out.1]; omega)
  have hwA : w.heap.size ≤ wA.heap.size := by have := SA.out; have := SN.out; omega
  have gmA : gm < wA.heap.size := by have := SA.out; have := SN.out; have := HGMs.out; omega
  have gbA : gb < wA.heap.size := by have := SA.out; have := SN.out; have := HGBs.out; omega
  have gpA : gp < wA.heap.size := by have := SA.out; have := SN.out; have := HGPs.out; omega
  have PX : ∀ x, (pkX P n1 x).h.length = 32 ∧ (pkX P n1 x).b.size ≤ 100 := fun x => pkX_ok HOK.out.hp n1 x
  have PXH := Lib.hid PX
  clear PX
  refine wpIn_rangeFunc_ownH (F := Fence.wide) (n := 3) rfl (by omega) (gf := 40) (lb := #[.pointer (some ⟨wN.heap.size, 0, none⟩)]) rfl trivial (enters_of Try.func40 (by kernel_rfl) rfl)
    (back_stops 2 (by omega) gm wN.heap.size wA.heap.size n1 c1 P HN1.out (fun p hp => (HOK.out.hp p hp).1) hP sp1 ⟨by have := SA.out; omega, by have := SN.out; have := HGMs.out; omega⟩ (fun k hk h0 => by have := hsp k hk h0; have := HGMs.out; omega) wA (by have := SA.out; omega) BA.out (SRC1.out.keep0 KWA.out)) ks_t (fun W l o o' h1 h2 h3 h4 => ks_b h1 h2) (Below.refl _ _) (fun _ => rfl)
    (NewI P n1 gm wA) (fun _ _ _ => False) (newI_own gmA) (fun _ _ _ _ _ h _ _ => h) ⟨(MQ.out.keep KA.out (fun h => h)), Kp.refl _ _, Nat.zero_le _⟩
    (NewA P n1 wA.heap.size (fun x g => { tmps := #[.slice sp1 n1 c1, .slice sp2 n2 c2, .slice sp3 ns c3, undef, undef, undef, .pointer none, .func (.func 25) #[] #[], .pointer (some ⟨gp, 0, none⟩), undef, .pointer (some ⟨g, 0, none⟩), .slice sp1 n1 c1, .func (.func 25) #[] #[], .slice s1 n1 d1, .slice sp2 n2 c2, .func (.func 25) #[] #[], .slice s2 n2 d2, .map (some gm), .agg #[.slice s1 n1 d1, .slice s2 n2 d2, .map (some gm), .slice none 0 0, .int .i64 0, .slice none 0 0], .pointer (some ⟨gb, 0, none⟩), .slice sp1 n1 c1, .func (.func 40) #[] #[.pointer (some ⟨wN.heap.size, 0, none⟩)], .int .i64 ((n1 - 1 - x % n1 : Nat) : Int), .agg (pkCells (pkX P n1 x)).toArray, undef, undef, undef, undef, undef, undef, undef, undef, undef, undef, undef, undef, undef, undef], defers := [] })) (newA_own _) ?assign ?body ?done ?stop
  case assign =>
    intro l pre x W K hI hK
    have hx32 := (PXH.out x).1
    have hIn := hI.2.1.size
    have HI := Lib.hid hI
    clear hI
    simp only [List.zip_toArray, List.zip_cons_cons, List.zip_nil_right, List.foldl_toArray, List.foldl_cons, List.foldl_nil, List.setIfInBounds_toArray, List.set_cons_succ, List.set_cons_zero]
    refine wpIn_region_lit (l := [_, _]) ?_
    refine wpListIn_of_op rfl (fun c h => by cases h) (fun K' hK' => opwp_alloc54 rfl ?_)
    intro g W1 z hz hg eg sg kg
    refine hK' _ _ ?_
    clear hK' K'
    have HZ := Lib.hid hz
    have HG := Lib.hid hg
    have KG := Lib.hid kg
    have EG := Lib.hid eg
    clear hz hg kg eg
    refine wpListIn_of_op rfl (fun c h => by cases h) (fun K' hK' => opwp_store54 (.tmp 10) (.tmp 23) rfl g (pkCells (pkX P n1 x)) rfl rfl z HG.out HZ.out (pkCells_len _ hx32) (pk_one _) ?_)
    intro W2 hh2 kk2
    refine hK' _ _ ?_
    clear hK' K'
    have HH2 := Lib.hid hh2
    have KK2 := Lib.hid kk2
    clear hh2 kk2
    have kT : Kp (fun k => k = g) W W2 := KG.out.zero.trans KK2.out fun k h => .inl h
    have kT0 : Kp (fun _ => False) W W2 := kT.mono fun k h => .inr (by have := EG.out; omega)
    refine hK _ _ ⟨kT.size, fun k o _ hk ho => kT0.heap hk (fun h => h)⟩ (kT0.mono fun k h => h.elim) ⟨HI.out.1.keep kT0 (fun h => h), HI.out.2.1.trans kT0 fun k h => h.elim, HI.out.2.2⟩ ⟨g, by have := EG.out; omega, rfl, HH2.out⟩
  case body =>
    rintro l pre x a' W hl _ hI ⟨g, hgn, rfl, hgc⟩ hlen
    obtain ⟨hx32, hxb⟩ := PXH.out x
    obtain ⟨p, hp⟩ : ∃ p, p = pkX P n1 x := ⟨_, rfl⟩
    dsimp only
    rw [← hp] at hx32 hxb hgc ⊢
    have HP := Lib.hid hp
    have HI := Lib.hid hI
    have HGC := Lib.hid hgc
    have hgpne : gp ≠ gm := by have := HGPs.out; have := HGMs.out; omega
    have hgbne : gb ≠ gm := by have := HGBs.out; have := HGMs.out; omega
    have GP : Hid (W.heap[gp]? = some (.cells #[.pointer (some ⟨gb, 0, none⟩)] 28 (0, 0))) := Lib.hid (hI.2.1.heap (KA.out.heap HGP.out (fun h => h)) (by intro h; rcases h with h | h; exact hgpne h; omega))
    have GB : Hid (W.heap[gb]? = some (.cells #[.slice s1 n1 d1, .slice s2 n2 d2, .map (some gm), .slice none 0 0, .int .i64 0, .slice none 0 0] 71 (0, 0))) := Lib.hid (hI.2.1.heap (KA.out.heap HGB.out (fun h => h)) (by intro h; rcases h with h | h; exact hgbne h; omega))
    have CB : Hid (W.cell? ⟨g, 32, none⟩ = some (.string p.b)) := Lib.hid (by
      rw [cell_of_row _ _ 32 _ _ _ hgc]
      simp only [pkCells, List.getElem?_toArray]
      rw [List.getElem?_append_right (by rw [byteCells_length, hx32]; exact Nat.le_refl _), byteCells_length, hx32]
      rfl)
    have RH : Hid (W.rangeAt g 0 (byteCells p.h)) := Lib.hid fun j v hv => by
      have hj : j < (byteCells p.h).length := (List.getElem?_eq_some_iff.1 hv).1
      rw [Nat.zero_add, cell_of_row _ _ j _ _ _ hgc]
      simp only [pkCells, List.getElem?_toArray]
      rw [List.getElem?_append_left hj, hv]
    have HI44 : Hid ((Try.prog.info? 44).map (·.size) = some (byteCells p.h).length) := Lib.hid (info44.trans (by rw [byteCells_length, hx32]))
    clear hp hI hgc
    have hpl := HI.out.2.2
    gi_wp2
    refine wpIn_round_last (S := Kp (fun _ => False) W) 8 (by kernel_rfl) (by rintro ⟨a, u, h⟩; exact h.elim) (noDefer_spec (by kernel_rfl)) (Kp.drew _ _) (fun hHeld => ?_)
    refine wpAnyL_take (i := 0) (v := ?v1) rfl (by kernel_rfl) (by kernel_rfl) (by kernel_rfl) (fun _ _ _ h => h) (Or.inl ⟨by rfl, ?y1⟩) (by assumption) ?r1
    case y1 =>
      intro wq hSw
      have q0 := cell_of_row _ _ 0 _ _ _ (hSw.heap GP.out (fun h => h))
      clear hSw
      go_simp
      with_reducible rfl
    simp only [Act.put, List.getElem_toArray, List.getElem_cons_succ, List.getElem_cons_zero, List.setIfInBounds_toArray, List.set_cons_zero, List.set_cons_succ]
    refine wpAnyL_take (i := 1) (v := ?v2) rfl (by kernel_rfl) (by kernel_rfl) (by kernel_rfl) (fun _ _ _ h => h) (Or.inl ⟨by rfl, ?y2⟩) (by assumption) ?r2
    case y2 =>
      intro wq hSw
      clear hSw
      go_simp
      with_reducible rfl
    simp only [Act.put, List.getElem_toArray, List.getElem_cons_succ, List.getElem_cons_zero, List.setIfInBounds_toArray, List.set_cons_zero, List.set_cons_succ]
    refine wpAnyL_take (i := 2) (v := ?v3) rfl (by kernel_rfl) (by kernel_rfl) (by kernel_rfl) (fun _ _ _ h => h) (Or.inl ⟨by rfl, ?y3⟩) (by assumption) ?r3
    case y3 =>
      intro wq hSw
      clear hSw
      go_simp
      with_reducible rfl
    simp only [Act.put, List.getElem_toArray, List.getElem_cons_succ, List.getElem_cons_zero, List.setIfInBounds_toArray, List.set_cons_zero, List.set_cons_succ]
    refine wpAnyL_take (i := 3) (v := ?v4) rfl (by kernel_rfl) (by kernel_rfl) (by kernel_rfl) (fun _ _ _ h => h) (Or.inl ⟨by rfl, ?y4⟩) (by assumption) ?r4
    case y4 =>
      intro wq hSw
      have q0 := cell_of_row _ _ 2 _ _ _ (hSw.heap GB.out (fun h => h))
      clear hSw
      go_simp
      with_reducible rfl
    simp only [Act.put, List.getElem_toArray, List.getElem_cons_succ, List.getElem_cons_zero, List.setIfInBounds_toArray, List.set_cons_zero, List.set_cons_succ]
    refine wpAnyL_take (i := 4) (v := ?v5) rfl (by kernel_rfl) (by kernel_rfl) (by kernel_rfl) (fun _ _ _ h => h) (Or.inl ⟨by rfl, ?y5⟩) (by assumption) ?r5
    case y5 =>
      intro wq hSw
      clear hSw
      go_simp
      with_reducible rfl
    simp only [Act.put, List.getElem_toArray, List.getElem_cons_succ, List.getElem_cons_zero, List.setIfInBounds_toArray, List.set_cons_zero, List.set_cons_succ]
    refine wpAnyL_take (i := 5) (v := _) rfl (by kernel_rfl) (by kernel_rfl) (by kernel_rfl) (fun _ _ _ h => h) (yieldsIf_load_mid (by rfl) _ _ rfl _ _ rfl _ _ (fun _ h => rangeAt_kp RH.out h (fun h => h)) Try.underlying44 rfl HI44.out) (by assumption) ?_
    simp only [Act.put, List.getElem_toArray, List.getElem_cons_succ, List.getElem_cons_zero, List.setIfInBounds_toArray, List.set_cons_zero, List.set_cons_succ]
    refine wpAnyL_take (i := 6) (v := ?v6) rfl (by kernel_rfl) (by kernel_rfl) (by kernel_rfl) (fun _ _ _ h => h) (Or.inl ⟨by rfl, ?y6⟩) (by assumption) ?r6
    case y6 =>
      intro wq hSw
      clear hSw
      go_simp
      with_reducible rfl
    simp only [Act.put, List.getElem_toArray, List.getElem_cons_succ, List.getElem_cons_zero, List.setIfInBounds_toArray, List.set_cons_zero, List.set_cons_succ]
    refine wpAnyL_take (i := 7) (v := ?v7) rfl (by kernel_rfl) (by kernel_rfl) (by kernel_rfl) (fun _ _ _ h => h) (Or.inl ⟨by rfl, ?y7⟩) (by assumption) ?r7
    case y7 =>
      intro wq hSw
      have q0 := hSw.cell CB.out (fun h => h)
      clear hSw
      go_simp
      with_reducible rfl
    simp only [Act.put, List.getElem_toArray, List.getElem_cons_succ, List.getElem_cons_zero, List.setIfInBounds_toArray, List.set_cons_zero, List.set_cons_succ]
    refine wpAnyL_one (i := 8) (by kernel_rfl) rfl (fun K hK => ?_)
    have HKQ := Lib.hid hHeld
    rw [if_pos (by rfl)]
    refine opwp_mapUpdate (.tmp 27) (.tmp 29) (.tmp 31) rfl gm pre.length (foldF P n1 pre) (HI.out.1.keep HKQ.out (fun h => h)) (by omega) p.h hx32 p.b (by omega) rfl rfl rfl ?_
    intro wF gF mF
    have GF := Lib.hid gF
    have MF := Lib.hid mF
    clear gF mF
    refine hK.out _ _ (fun h => absurd rfl h) (fun _ => ?_)
    clear hK K
    refine wpAnyL_done (by kernel_rfl) ?_ _
    have hk3 : Kp (fun k => k = gm) W wF := HKQ.out.zero.trans (Kp.grown (F := fun k => k = gm) GF.out fun k e => (Option.some.inj e).symm) fun k h => .inl h
    refine ⟨⟨hk3.size, fun k o hkn hk ho => hk3.heap hk (by show ¬ k = gm; omega)⟩, hk3.mono fun k h => .inl (.inl h), ?_, HI.out.2.1.trans hk3 fun k h => .inl (.inl h), by rw [List.length_append]; exact hlen⟩
    rw [foldF_snoc, List.length_append, ← HP.out]
    exact MF.out
  case done =>
    rintro D ys W hD rfl ⟨hmq, hkp, _⟩ hK
    rw [List.length_range] at hmq
    have hgpne : gp ≠ gm := by have := HGPs.out; have := HGMs.out; omega
    have hgbne : gb ≠ gm := by have := HGBs.out; have := HGMs.out; omega
    have GP : Hid (W.heap[gp]? = some (.cells #[.pointer (some ⟨gb, 0, none⟩)] 28 (0, 0))) := Lib.hid (hkp.heap (KA.out.heap HGP.out (fun h => h)) (by intro h; rcases h with h | h; exact hgpne h; omega))
    have GB : Hid (W.heap[gb]? = some (.cells #[.slice s1 n1 d1, .slice s2 n2 d2, .map (some gm), .slice none 0 0, .int .i64 0, .slice none 0 0] 71 (0, 0))) := Lib.hid (hkp.heap (KA.out.heap HGB.out (fun h => h)) (by intro h; rcases h with h | h; exact hgbne h; omega))
    have MW : Hid (MapQ W gm n1 (wantedS P)) := Lib.hid (by
      have e : foldF P n1 (List.range n1) = wantedS P := by
        funext h
        rw [foldF_range P n1 HN1.out n1 (Nat.le_refl _) h, Nat.sub_self, List.drop_zero]
      rw [← e]
      exact hmq)
    have KW : Hid (Kp (fun _ => False) w W) := Lib.hid (KWA.out.trans hkp fun k h => .inr (by rcases h with h | h; have := HGMs.out; omega; omega))
    have KW2 : Hid (Kp (fun k => k = gm) w2 W) := Lib.hid (((KN.out.trans KA.out fun _ (h : False) => h.elim).zero).trans hkp fun k h => by rcases h with h | h; exact .inl h; exact .inr (by have := SA.out; have := SN.out; omega))
    have HKD := Lib.hid hK
    have lD : D < W.heap.size := (Array.getElem?_eq_some_iff.1 hK).1
    have lgb : gb < W.heap.size := (Array.getElem?_eq_some_iff.1 GB.out).1
    have lgp : gp < W.heap.size := (Array.getElem?_eq_some_iff.1 GP.out).1
    clear hmq hkp hK
    go_wp2_with fail
    refine Code.wp_mono onlyN_le ?_
    refine wp_region_last (S := Kp (fun _ => False) W) 5 (by kernel_rfl) (Kp.drew (fun _ => False) W) (fun hHeld => ?_)
    refine wpAnyL_take (i := 0) (v := ?v8) rfl (by kernel_rfl) (by kernel_rfl) (by kernel_rfl) (fun _ _ _ h => h) (Or.inl ⟨by rfl, ?y8⟩) (by assumption) ?r8
    case y8 =>
      intro wq hSw
      have q0 := cell_of_row _ _ 0 _ _ _ (hSw.heap GP.out (fun h => h))
      clear hSw
      go_simp
      with_reducible rfl
    simp only [Act.put, List.getElem_toArray, List.getElem_cons_succ, List.getElem_cons_zero, List.setIfInBounds_toArray, List.set_cons_zero, List.set_cons_succ]
    refine wpAnyL_take (i := 1) (v := ?v9) rfl (by kernel_rfl) (by kernel_rfl) (by kernel_rfl) (fun _ _ _ h => h) (Or.inl ⟨by rfl, ?y9⟩) (by assumption) ?r9
    case y9 =>
      intro wq hSw
      clear hSw
      go_simp
      with_reducible rfl
    simp only [Act.put, List.getElem_toArray, List.getElem_cons_succ, List.getElem_cons_zero, List.setIfInBounds_toArray, List.set_cons_zero, List.set_cons_succ]
    refine wpAnyL_one (i := 2) (by kernel_rfl) rfl (fun K hK => ?_)
    have HK1 := Lib.hid hHeld
    rw [if_pos (by rfl)]
    go_simp
    have hsc := own80_any W.drew S sp3 c3 sv ((by rw [← HNS.out]; exact SRC3.out : Src w 1 sp3 S.length sv).keep0 (KW.out.trans HK1.out fun _ (h : False) => h.elim)) (fun i m l hm hl => by obtain ⟨spl, cl, e, h⟩ := EACH.out i m l hm hl; exact ⟨spl, cl, e, h.keep0 (KW.out.trans HK1.out fun _ (h : False) => h.elim)⟩) (by rw [← HNS.out]; exact hS) (fun l hl => (HOK.out.hs l hl).1)
    rw [← HNS.out] at hsc
    refine hsc.mono ?_
    rintro e w6 ⟨s3, d3, ms, rfl, hown, hmir, hnd, k6⟩
    have HMI := Lib.hid hmir
    have HND := Lib.hid hnd
    have OWM := Lib.hid hown
    have K6 := Lib.hid (HK1.out.trans k6 fun _ (h : False) => h.elim)
    clear hsc hmir hnd hown k6
    dsimp only
    refine hK.out _ _ (fun _ => K6.out) (fun hHeld => ?_)
    replace hHeld := hHeld (by decide)
    clear hK K
    refine wpAnyL_one (i := 3) (by kernel_rfl) rfl (fun K hK => ?_)
    rw [if_pos (by rfl)]
    go_simp
    refine hK.out _ _ (fun _ => hHeld) (fun hHeld => ?_)
    replace hHeld := hHeld (by decide)
    clear hK K
    refine wpAnyL_take (i := 4) (v := ?v10) rfl (by kernel_rfl) (by kernel_rfl) (by kernel_rfl) (fun _ _ _ h => h) (Or.inl ⟨by rfl, ?y10⟩) (by assumption) ?r10
    case y10 =>
      intro wq hSw
      clear hSw
      go_simp
      with_reducible rfl
    simp only [Act.put, List.getElem_toArray, List.getElem_cons_succ, List.getElem_cons_zero, List.setIfInBounds_toArray, List.set_cons_zero, List.set_cons_succ]
    refine wpAnyL_one (i := 5) (by kernel_rfl) rfl (fun K hK => ?_)
    rw [if_pos (by rfl)]
    have q3 := cell_of_row _ _ 3 _ _ _ (K6.out.heap GB.out (fun h => h))
    have qf := frozen_of_row _ gb 3 _ _ (K6.out.heap GB.out (fun h => h))
    go_simp
    refine hK.out _ _ (fun h => absurd rfl h) (fun _ => ?_)
    clear hK K
    refine wpAnyL_done (by kernel_rfl) ?_ _
    dsimp only [OnlyN]
    obtain ⟨wF, hwF⟩ : ∃ wF, wF = w6.setCell ⟨gb, 3, none⟩ (.slice s3 ns d3) := ⟨_, rfl⟩
    rw [← hwF]
    have kc : Kp (fun q => q = gb) w6 wF := by rw [hwF]; exact Kp.setCell w6 (a := ⟨gb, 3, none⟩) _ rfl
    have HFB : Hid (wF.heap[gb]? = some (.cells #[.slice s1 n1 d1, .slice s2 n2 d2, .map (some gm), .slice s3 ns d3, .int .i64 0, .slice none 0 0] 71 (0, 0))) := Lib.hid (by
      rw [hwF, heap_setCell_same _ gb 3 _ 71 _ (K6.out.heap GB.out (fun h => h))]
      rfl)
    have hgpgb : gp ≠ gb := by have := HGPs.out; have := HGBs.out; omega
    have hFP := kc.heap (K6.out.heap GP.out (fun h => h)) hgpgb
    have hFc := cell_of_row _ _ 0 _ _ _ hFP
    have HFD : Hid (wF.heap[D]? = some (.deferred (some []))) := Lib.hid (kc.heap (K6.out.heap HKD.out (fun h => h)) (by show ¬ D = gb; omega))
    have KC := Lib.hid kc
    clear hwF kc hFP hHeld
    go_wp2_with fail
    refine ⟨by simp, .inl ⟨_, _, rfl, run_takeDeferred HFD.out, ?_⟩⟩
    have hgr := grownBy_putObj' wF D (.deferred none)
    have KP : Kp (fun q => q = D) wF (wF.putObj D (.deferred none)) := Kp.grown hgr fun k e => (Option.some.inj e).symm
    generalize wF.putObj D (.deferred none) = wE at KP ⊢
    have KE : Kp (fun q => q = gb ∨ q = D) w6 wE := (KC.out.mono fun k h => .inl (.inl h)).trans KP fun k h => .inl (.inr h)
    have KWE : Kp (fun q => q = gb ∨ q = D) W wE := K6.out.zero.trans KE fun k h => .inl h
    have hDA : wA.heap.size ≤ D := hD
    have h2A : w2.heap.size < wA.heap.size := by have := SA.out; have := SN.out; omega
    have gb2 : w2.heap.size ≤ gb := by have := HGBs.out; omega
    have gm2 : w2.heap.size ≤ gm := by have := HGMs.out; omega
    have hgmgb : gm ≠ gb := by have := HGMs.out; have := HGBs.out; omega
    have oldRow : ∀ {e : TypeId} {sz n B : Nat} {v : Value} {xs : List Value}, w2.ownsRow B e sz v n xs → wE.ownsRow B e sz v n xs := by
      intro e sz n B v xs h
      refine KWE.own (KW2.out.own h fun q hq e => ?_) fun q hq e => ?_
      · have := (ownsRow_block h hq).2.1; have e' : q = gm := e; omega
      · have := (ownsRow_block h hq).2.1; rcases e with e | e <;> omega
    have szW : W.heap.size ≤ w6.heap.size := K6.out.size
    have hBW : w.heap.size ≤ W.heap.size := KW.out.size
    have h12 := K1.out.size
    refine ⟨_, results_tmp rfl _ _ _, ⟨gb, .slice s1 n1 d1, .slice s2 n2 d2, .map (some gm), .slice s3 ns d3, .slice none 0 0, ms⟩, rfl, ?_, ?_⟩
    · exact {
        hB := by show w.heap.size ≤ gb; omega
        obj := KP.heap HFB.out (by show ¬ gb = D; omega)
        pk := by
          have := oldRow (K2.out.own O1.out fun _ _ h => h)
          show wE.ownsRow w.heap.size 54 33 (.slice s1 n1 d1) P.length (pks P)
          rw [← HN1.out]
          exact this
        old := by
          have := oldRow O2.out
          show wE.ownsRow w.heap.size 54 33 (.slice s2 n2 d2) O.length (pks O)
          rw [← HN2.out]
          exact own_low this h12
        mp := .inr ⟨gm, n1, rfl, by omega, MW.out.keep KWE (by rintro (e | e) <;> omega)⟩
        mir := by
          show wE.ownsRow w.heap.size 80 1 (.slice s3 ns d3) S.length (mirV ms)
          rw [← HNS.out]
          refine own_low (KE.own OWM.out fun q hq e => ?_) hBW
          have := (ownsRow_block OWM.out hq).1
          have : W.heap.size ≤ q := this
          rcases e with e | e <;> omega
        each := fun i m l a hm hl ha => by
          have M := HMI.out i m l hm hl
          have ha0 : a = 0 := by
            have h0 : (List.replicate S.length 0)[i]? = some a := ha
            rw [List.getElem?_replicate] at h0
            split at h0 <;> simp_all
          subst ha0
          have hb : W.heap.size ≤ m.1 := M.hB
          have M2 := M.keep KE (by rintro (e | e) <;> omega) fun q hq e => by
            have : W.heap.size ≤ q := (ownsRow_block M.scr hq).1
            rcases e with e | e <;> omega
          exact ⟨by omega, M2.cnt, own_low M2.scr hBW⟩
        nd := HND.out
        rep := ⟨rfl, .inl ⟨rfl, rfl⟩⟩
        ok := HOK.out }
    · exact KW.out.trans KWE fun q h => .inr (by rcases h with h | h <;> omega)
  case stop =>
    rintro D c pre W _ _ h _
    exact h.elim

end Go.Proofs.Ytlkamfmepjddkaa
