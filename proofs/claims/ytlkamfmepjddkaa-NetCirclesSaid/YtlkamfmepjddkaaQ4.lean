/- A net and its model in one memory; an act on both. -/
import Derived.Test.YtlkamfmepjddkaaQ1
import Derived.Test.YtlkamfmepjddkaaN8
set_option linter.unusedSimpArgs false
set_option linter.unusedVariables false
namespace Go.Proofs.Ytlkamfmepjddkaa
open Go.RowKit Go.Lib Go.Maps

/-- Both at once, in their two states. -/
structure DeskP (w : World) (B : Nat) (V : NV) (R : RV) (s t : NS) : Prop where
  n : NetP w B V s
  r : RefP w B R t
  ap : ∀ k, V.dom k → ¬ R.dom k

theorem DeskP.keep {F : Nat → Prop} {w w' : World} {B : Nat} {V : NV} {R : RV} {s t : NS} (h : DeskP w B V R s t) (hk : Kp F w w') (h1 : ∀ k, V.dom k → ¬ F k) (h2 : ∀ k, R.dom k → ¬ F k) : DeskP w' B V R s t := ⟨h.n.keep hk h1, h.r.keep hk h2, h.ap⟩
theorem DeskP.keep0 {w w' : World} {B : Nat} {V : NV} {R : RV} {s t : NS} (h : DeskP w B V R s t) (hk : Kp (fun _ => False) w w') : DeskP w' B V R s t := h.keep hk (fun _ _ h => h) (fun _ _ h => h)
theorem NV.dom_vr {V : NV} {vr' : Value} {n : Nat} (hl : ∀ k, vr'.ownBlock = some k → V.vr.ownBlock = some k ∨ n ≤ k) {k : Nat} (h : ({ V with vr := vr' } : NV).dom k) : V.dom k ∨ n ≤ k := by
  rcases h with h | h | h | h | h | h | h
  · exact .inl (.inl h)
  · exact .inl (.inr (.inl h))
  · exact .inl (.inr (.inr (.inl h)))
  · exact .inl (.inr (.inr (.inr (.inl h))))
  · exact .inl (.inr (.inr (.inr (.inr (.inl h)))))
  · rcases hl k h with h | h
    · exact .inl (.inr (.inr (.inr (.inr (.inr (.inl h))))))
    · exact .inr h
  · exact .inl (.inr (.inr (.inr (.inr (.inr (.inr h))))))
theorem NV.foot_vr {V : NV} {vr' : Value} {n : Nat} (hl : ∀ k, vr'.ownBlock = some k → V.vr.ownBlock = some k ∨ n ≤ k) {k : Nat} (h : ({ V with vr := vr' } : NV).foot k) : V.foot k ∨ n ≤ k := by
  rcases h with h | h | h
  · exact .inl (.inl h)
  · rcases hl k h with h | h
    · exact .inl (.inr (.inl h))
    · exact .inr h
  · exact .inl (.inr (.inr h))
theorem RV.dom_vr {V : RV} {vr' : Value} {n : Nat} (hl : ∀ k, vr'.ownBlock = some k → V.vr.ownBlock = some k ∨ n ≤ k) {k : Nat} (h : ({ V with vr := vr' } : RV).dom k) : V.dom k ∨ n ≤ k := by
  rcases h with h | h | h | h | h | h | h
  · exact .inl (.inl h)
  · exact .inl (.inr (.inl h))
  · exact .inl (.inr (.inr (.inl h)))
  · exact .inl (.inr (.inr (.inr (.inl h))))
  · exact .inl (.inr (.inr (.inr (.inr (.inl h)))))
  · rcases hl k h with h | h
    · exact .inl (.inr (.inr (.inr (.inr (.inr (.inl h))))))
    · exact .inr h
  · exact .inl (.inr (.inr (.inr (.inr (.inr (.inr h))))))
theorem RV.foot_vr {V : RV} {vr' : Value} {n : Nat} (hl : ∀ k, vr'.ownBlock = some k → V.vr.ownBlock = some k ∨ n ≤ k) {k : Nat} (h : ({ V with vr := vr' } : RV).foot k) : V.foot k ∨ n ≤ k := by
  rcases h with h | h | h
  · exact .inl (.inl h)
  · exact .inl (.inr (.inl h))
  · rcases hl k h with h | h
    · exact .inl (.inr (.inr h))
    · exact .inr h

theorem DeskP.net {w w' : World} {B : Nat} {V : NV} {R : RV} {s s' t : NS} {vr' : Value} (h : DeskP w B V R s t) (hn : NetP w' B { V with vr := vr' } s') (hk : Kp V.foot w w') (hl : ∀ k, vr'.ownBlock = some k → V.vr.ownBlock = some k ∨ w.heap.size ≤ k) : DeskP w' B { V with vr := vr' } R s' t :=
  ⟨hn, h.r.keep hk fun k hr hf => h.ap k (NV.foot_dom hf) hr, fun k hd hr => by
    rcases NV.dom_vr hl hd with h1 | h1
    · exact h.ap k h1 hr
    · have := (h.r.dom_lt hr).2; omega⟩
theorem DeskP.ref {w w' : World} {B : Nat} {V : NV} {R : RV} {s t t' : NS} {vr' : Value} (h : DeskP w B V R s t) (hn : RefP w' B { R with vr := vr' } t') (hk : Kp R.foot w w') (hl : ∀ k, vr'.ownBlock = some k → R.vr.ownBlock = some k ∨ w.heap.size ≤ k) : DeskP w' B V { R with vr := vr' } s t' :=
  ⟨h.n.keep hk fun k hr hf => h.ap k hr (RV.foot_dom hf), hn, fun k hd hr => by
    rcases RV.dom_vr hl hr with h1 | h1
    · exact h.ap k hd h1
    · have := (h.n.dom_lt hd).2; omega⟩

/-- What a call may write. -/
def feet (V : NV) (R : RV) (k : Nat) : Prop := V.foot k ∨ R.foot k
theorem DeskP.feet_ge {w : World} {B : Nat} {V : NV} {R : RV} {s t : NS} (h : DeskP w B V R s t) {k : Nat} (hk : feet V R k) : B ≤ k := by
  rcases hk with hk | hk
  · exact (h.n.dom_lt (NV.foot_dom hk)).1
  · exact (h.r.dom_lt (RV.foot_dom hk)).1
theorem DeskP.not_feet {w : World} {B : Nat} {V : NV} {R : RV} {s t : NS} (h : DeskP w B V R s t) {k : Nat} {cs : Array Value} {ty : TypeId} {fr : Nat × Nat} (hk : w.heap[k]? = some (.cells cs ty fr)) (h1 : ty ≠ 71) (h2 : ty ≠ 50) (h3 : ty ≠ 83) (h4 : ty ≠ 63) (h5 : ty ≠ 3) : ¬ feet V R k := by
  rintro (hf | hf)
  · exact h.n.not_foot hk h1 h2 h3 hf
  · exact h.r.not_foot hk h4 h2 h5 hf

/-- The act's two blocks and both. -/
structure DX (u : World) (B x bx : Nat) (V : NV) (R : RV) (s t : NS) (k now mir h : Int) : Prop where
  d : DeskP u B V R s t
  dx : u.heap[x]? = some (.cells #[.pointer (some ⟨V.b, 0, none⟩), .pointer (some ⟨R.b, 0, none⟩)] 31 (0, 0))
  ax : u.heap[bx]? = some (.cells #[.int .i64 k, .int .i64 now, .int .i64 mir, .int .i64 h] 35 (0, 0))
theorem DX.keep0 {u u' : World} {B x bx : Nat} {V : NV} {R : RV} {s t : NS} {k now mir h : Int} (d : DX u B x bx V R s t k now mir h) (hk : Kp (fun _ => False) u u') : DX u' B x bx V R s t k now mir h :=
  ⟨d.d.keep0 hk, hk.heap d.dx (fun h => h), hk.heap d.ax (fun h => h)⟩
theorem DX.net {u u' : World} {B x bx : Nat} {V : NV} {R : RV} {s s' t : NS} {k now mir h : Int} {vr' : Value} (d : DX u B x bx V R s t k now mir h) (hn : NetP u' B { V with vr := vr' } s') (hk : Kp V.foot u u') (hl : ∀ k, vr'.ownBlock = some k → V.vr.ownBlock = some k ∨ u.heap.size ≤ k) : DX u' B x bx { V with vr := vr' } R s' t k now mir h :=
  ⟨d.d.net hn hk hl, hk.heap d.dx (d.d.n.not_foot d.dx (by decide) (by decide) (by decide)), hk.heap d.ax (d.d.n.not_foot d.ax (by decide) (by decide) (by decide))⟩
theorem DX.ref {u u' : World} {B x bx : Nat} {V : NV} {R : RV} {s t t' : NS} {k now mir h : Int} {vr' : Value} (d : DX u B x bx V R s t k now mir h) (hn : RefP u' B { R with vr := vr' } t') (hk : Kp R.foot u u') (hl : ∀ k, vr'.ownBlock = some k → R.vr.ownBlock = some k ∨ u.heap.size ≤ k) : DX u' B x bx V { R with vr := vr' } s t' k now mir h :=
  ⟨d.d.ref hn hk hl, hk.heap d.dx (d.d.r.not_foot d.dx (by decide) (by decide) (by decide)), hk.heap d.ax (d.d.r.not_foot d.ax (by decide) (by decide) (by decide))⟩

/-- Behind an act: the answer is true, and both have gone on alike. -/
def DoPost (w : World) (B : Nat) (V : NV) (R : RV) (s' : NS) (e : Ending) (w' : World) : Prop :=
  e = .returned (.bool true) ∧ ∃ vr vr', DeskP w' B { V with vr := vr } { R with vr := vr' } s' s' ∧ Kp (feet V R) w w'

def actV (k now mir h : Int) : Value := .agg #[.int .i64 k, .int .i64 now, .int .i64 mir, .int .i64 h]
def dskV (V : NV) (R : RV) : Value := .agg #[.pointer (some ⟨V.b, 0, none⟩), .pointer (some ⟨R.b, 0, none⟩)]

theorem hshK_len (h : Int) : (hshK h).length = 32 := rfl
theorem desk_alloc {w : World} {B : Nat} {V : NV} {R : RV} {s t : NS} (h : DeskP w B V R s t) (k now mir hh : Int) :
    DX ((w.alloc (.cells #[.pointer (some ⟨V.b, 0, none⟩), .pointer (some ⟨R.b, 0, none⟩)] 31)).alloc (.cells #[.int .i64 k, .int .i64 now, .int .i64 mir, .int .i64 hh] 35)) B w.heap.size (w.heap.size + 1) V R s t k now mir hh :=
  ⟨(h.keep0 (Kp.alloc _ _ _)).keep0 (Kp.alloc _ _ _), heap_alloc2_old w _ _, heap_alloc2_new w _ _⟩

def DS2 (x bx : Nat) (bn br : Nat) (k now mir h : Int) (u : World) : Prop :=
  u.heap[x]? = some (.cells #[.pointer (some ⟨bn, 0, none⟩), .pointer (some ⟨br, 0, none⟩)] 31 (0, 0)) ∧ u.heap[bx]? = some (.cells #[.int .i64 k, .int .i64 now, .int .i64 mir, .int .i64 h] 35 (0, 0))

set_option maxRecDepth 100000 in
set_option maxHeartbeats 8000000 in
theorem do_ask {w : World} {B : Nat} {V : NV} {R : RV} {s : NS} (h : DeskP w B V R s s) (k now mir hh : Int) (hk : k % 6 < 4) (hn : s.n < 100000) :
    Calls Try.prog 12 #[dskV V R, actV k now mir hh] w (DoPost w B V R (askS s (now.tmod 100000) (mirK mir) (hshK hh))) := by
  obtain ⟨x, hx⟩ : ∃ x, x = w.heap.size := ⟨_, rfl⟩
  obtain ⟨bx, hbx⟩ : ∃ x, x = w.heap.size + 1 := ⟨_, rfl⟩
  have hd := desk_alloc h k now mir hh
  rw [← hbx, ← hx] at hd
  obtain ⟨w0, hw0⟩ : ∃ w0, w0 = (w.alloc (.cells #[.pointer (some ⟨V.b, 0, none⟩), .pointer (some ⟨R.b, 0, none⟩)] 31)).alloc (.cells #[.int .i64 k, .int .i64 now, .int .i64 mir, .int .i64 hh] 35) := ⟨_, rfl⟩
  rw [← hw0] at hd
  have K0 : Hid (Kp (fun _ => False) w w0) := Lib.hid (by rw [hw0]; exact (Kp.alloc _ _ _).trans (Kp.alloc (fun _ => False) _ _) fun _ h => h.elim)
  obtain ⟨m, hm⟩ : ∃ m : Int, m = k % 6 := ⟨_, rfl⟩
  have hm0 : 0 ≤ m := by omega
  have hm4 : m < 4 := by omega
  have HM := Lib.hid hm.symm
  have HD := Lib.hid hd
  obtain ⟨nw, hnw⟩ : ∃ y, y = now.tmod 100000 := ⟨_, rfl⟩
  have hb := tmod_bd now 100000 (by omega)
  have hb1 : -1000000 ≤ nw ∧ nw ≤ 1000000 := by omega
  have HNW := Lib.hid hnw
  have c0 : Hid (w0.cell? ⟨bx, 0, none⟩ = some (.int .i64 k)) := Lib.hid (cell_of_row _ _ 0 _ _ _ hd.ax)
  have c1 : Hid (w0.cell? ⟨bx, 1, none⟩ = some (.int .i64 now)) := Lib.hid (cell_of_row _ _ 1 _ _ _ hd.ax)
  obtain ⟨r, hr⟩ : ∃ r, r = reqV (mirK mir) (hshK hh) := ⟨_, rfl⟩
  have HR := Lib.hid hr
  have HX := Lib.hid hx
  have HBX := Lib.hid hbx
  clear h hk hm hd hx hbx hnw hr hb
  unfold dskV actV
  rw [← HNW.out]
  go_enter Try.func12, Try.ntmps12
  have d0 := c0.out
  have d1 := c1.out
  go_wp2_with fail
  rw [← HBX.out, ← HX.out, ← hw0]
  clear hw0
  go_wp2_with fail
  refine (mod_kp k 6 _ m HM.out (by omega) (by omega)).mono ?_
  rintro e w' ⟨rfl, rfl⟩
  go_wp2_with fail
  rw [← HNW.out]
  clear d0 d1
  refine wp_region_held_drew (S := DS2 x bx V.b R.b k now mir hh) (by kernel_rfl) (⟨HD.out.dx, HD.out.ax⟩) (fun hHeld => ?_)
  refine wpAnyH_take (i := 0) (v := ?v1) rfl (by kernel_rfl) (by kernel_rfl) (by kernel_rfl) (fun _ _ _ h => h) (Or.inl ⟨by rfl, ?y1⟩) (by assumption) ?r1
  case y1 =>
    intro wq hSw
    clear hSw
    go_simp
    with_reducible rfl
  simp only [Act.put, List.getElem_toArray, List.getElem_cons_succ, List.getElem_cons_zero, List.setIfInBounds_toArray, List.set_cons_zero, List.set_cons_succ]
  refine wpAnyH_take (i := 1) (v := ?v2) rfl (by kernel_rfl) (by kernel_rfl) (by kernel_rfl) (fun _ _ _ h => h) (Or.inl ⟨by rfl, ?y2⟩) (by assumption) ?r2
  case y2 =>
    intro wq hSw
    have q0 := cell_of_row _ _ 0 _ _ _ hSw.1
    clear hSw
    go_simp
    with_reducible rfl
  simp only [Act.put, List.getElem_toArray, List.getElem_cons_succ, List.getElem_cons_zero, List.setIfInBounds_toArray, List.set_cons_zero, List.set_cons_succ]
  refine wpAnyH_take (i := 2) (v := ?v3) rfl (by kernel_rfl) (by kernel_rfl) (by kernel_rfl) (fun _ _ _ h => h) (Or.inl ⟨by rfl, ?y3⟩) (by assumption) ?r3
  case y3 =>
    intro wq hSw
    clear hSw
    go_simp
    with_reducible rfl
  simp only [Act.put, List.getElem_toArray, List.getElem_cons_succ, List.getElem_cons_zero, List.setIfInBounds_toArray, List.set_cons_zero, List.set_cons_succ]
  refine wpAnyH_take (i := 3) (v := _) rfl (by kernel_rfl) (by kernel_rfl) (by kernel_rfl) (fun _ _ _ h => h) (yieldsIf_load_mid (by rfl) _ _ rfl _ _ rfl _ _ (fun _ h => range_of_heap h.2) Try.underlying35 rfl (by kernel_rfl)) (by assumption) ?_
  simp only [Act.put, List.getElem_toArray, List.getElem_cons_succ, List.getElem_cons_zero, List.setIfInBounds_toArray, List.set_cons_zero, List.set_cons_succ]
  refine wpAnyH_take (i := 6) (v := ?v4) rfl (by kernel_rfl) (by kernel_rfl) (by kernel_rfl) (fun _ _ _ h => h) (Or.inl ⟨by rfl, ?y4⟩) (by assumption) ?r4
  case y4 =>
    intro wq hSw
    clear hSw
    go_simp
    with_reducible rfl
  simp only [Act.put, List.getElem_toArray, List.getElem_cons_succ, List.getElem_cons_zero, List.setIfInBounds_toArray, List.set_cons_zero, List.set_cons_succ]
  refine wpAnyH_take (i := 7) (v := ?v5) rfl (by kernel_rfl) (by kernel_rfl) (by kernel_rfl) (fun _ _ _ h => h) (Or.inl ⟨by rfl, ?y5⟩) (by assumption) ?r5
  case y5 =>
    intro wq hSw
    have q0 := cell_of_row _ _ 1 _ _ _ hSw.1
    clear hSw
    go_simp
    with_reducible rfl
  simp only [Act.put, List.getElem_toArray, List.getElem_cons_succ, List.getElem_cons_zero, List.setIfInBounds_toArray, List.set_cons_zero, List.set_cons_succ]
  refine wpAnyH_take (i := 8) (v := ?v6) rfl (by kernel_rfl) (by kernel_rfl) (by kernel_rfl) (fun _ _ _ h => h) (Or.inl ⟨by rfl, ?y6⟩) (by assumption) ?r6
  case y6 =>
    intro wq hSw
    clear hSw
    go_simp
    with_reducible rfl
  simp only [Act.put, List.getElem_toArray, List.getElem_cons_succ, List.getElem_cons_zero, List.setIfInBounds_toArray, List.set_cons_zero, List.set_cons_succ]
  refine wpAnyH_take (i := 9) (v := _) rfl (by kernel_rfl) (by kernel_rfl) (by kernel_rfl) (fun _ _ _ h => h) (yieldsIf_load_mid (by rfl) _ _ rfl _ _ rfl _ _ (fun _ h => range_of_heap h.2) Try.underlying35 rfl (by kernel_rfl)) (by assumption) ?_
  simp only [Act.put, List.getElem_toArray, List.getElem_cons_succ, List.getElem_cons_zero, List.setIfInBounds_toArray, List.set_cons_zero, List.set_cons_succ]
  refine wpAnyH_ready (rs := [4]) (by kernel_rfl) (by simp) ?_
  refine AllReadyH.cons rfl (fun K hK => ?_) AllReadyH.nil
  rw [if_pos (by rfl)]
  go_simp
  refine (request_any k now mir hh _).mono ?_
  rintro e u1 ⟨rfl, k1⟩
  rw [← HR.out]
  have D1 := Lib.hid ((HD.out.keep0 (Kp.drew _ _)).keep0 k1)
  have KA1 := Lib.hid ((Kp.drew (fun _ => False) w0).trans k1 fun _ (h : False) => h.elim)
  clear k1
  dsimp only
  refine hK.out _ _ (⟨D1.out.dx, D1.out.ax⟩) (fun hHeld => ?_)
  clear hK K
  refine wpAnyH_ready (rs := [5]) (by kernel_rfl) (by simp) ?_
  refine AllReadyH.cons rfl (fun K hK => ?_) AllReadyH.nil
  rw [if_pos (by rfl)]
  go_simp
  rw [HR.out]
  refine (ask_any D1.out.d.n nw (mirK mir) (hshK hh) (hshK_len hh) hn hb1).mono ?_
  rintro e u2 ⟨rfl, vr1, hn2, k2, l2⟩
  rw [← HR.out]
  have D2 := Lib.hid (D1.out.net hn2 k2 l2)
  have KA2 : Hid (Kp (feet V R) w0 u2) := Lib.hid (KA1.out.zero.trans k2 fun q hq => .inl (.inl hq))
  clear hn2 k2 l2
  dsimp only
  refine hK.out _ _ (⟨D2.out.dx, D2.out.ax⟩) (fun hHeld => ?_)
  clear hK K
  refine wpAnyH_ready (rs := [10]) (by kernel_rfl) (by simp) ?_
  refine AllReadyH.cons rfl (fun K hK => ?_) AllReadyH.nil
  rw [if_pos (by rfl)]
  go_simp
  refine (request_any k now mir hh _).mono ?_
  rintro e u3 ⟨rfl, k3⟩
  rw [← HR.out]
  have D3 := Lib.hid (D2.out.keep0 k3)
  have KA3 := Lib.hid (KA2.out.trans k3 fun q (hq : False) => hq.elim)
  clear k3
  dsimp only
  refine hK.out _ _ (⟨D3.out.dx, D3.out.ax⟩) (fun hHeld => ?_)
  clear hK K
  refine wpAnyH_ready (rs := [11]) (by kernel_rfl) (by simp) ?_
  refine AllReadyH.cons rfl (fun K hK => ?_) AllReadyH.nil
  rw [if_pos (by rfl)]
  go_simp
  rw [HR.out]
  refine (rask_any D3.out.d.r nw (mirK mir) (hshK hh) (hshK_len hh) hn hb1).mono ?_
  rintro e u4 ⟨rfl, vr2, hn4, k4, l4⟩
  rw [← HR.out]
  have DF := Lib.hid (D3.out.ref hn4 k4 l4)
  have KA : Hid (Kp (feet V R) w0 u4) := Lib.hid (KA3.out.trans k4 fun q hq => .inl (.inr hq))
  clear hn4 k4 l4
  dsimp only
  refine hK.out _ _ (⟨DF.out.dx, DF.out.ax⟩) (fun hHeld => ?_)
  clear hK K
  refine wpAnyH_take (i := 12) (v := ?v7) rfl (by kernel_rfl) (by kernel_rfl) (by kernel_rfl) (fun _ _ _ h => h) (Or.inl ⟨by rfl, ?y7⟩) (by assumption) ?r7
  case y7 =>
    intro wq hSw
    clear hSw
    go_simp
    with_reducible rfl
  simp only [Act.put, List.getElem_toArray, List.getElem_cons_succ, List.getElem_cons_zero, List.setIfInBounds_toArray, List.set_cons_zero, List.set_cons_succ]
  refine wpAnyH_take (i := 13) (v := ?v8) rfl (by kernel_rfl) (by kernel_rfl) (by kernel_rfl) (fun _ _ _ h => h) (Or.inl ⟨by rfl, ?y8⟩) (by assumption) ?r8
  case y8 =>
    intro wq hSw
    clear hSw
    go_simp
    with_reducible rfl
  simp only [Act.put, List.getElem_toArray, List.getElem_cons_succ, List.getElem_cons_zero, List.setIfInBounds_toArray, List.set_cons_zero, List.set_cons_succ]
  refine wpAnyH_take (i := 14) (v := ?v9) rfl (by kernel_rfl) (by kernel_rfl) (by kernel_rfl) (fun _ _ _ h => h) (Or.inl ⟨by rfl, ?y9⟩) (by assumption) ?r9
  case y9 =>
    intro wq hSw
    clear hSw
    go_simp
    with_reducible rfl
  simp only [Act.put, List.getElem_toArray, List.getElem_cons_succ, List.getElem_cons_zero, List.setIfInBounds_toArray, List.set_cons_zero, List.set_cons_succ]
  refine wpAnyH_take (i := 15) (v := ?v10) rfl (by kernel_rfl) (by kernel_rfl) (by kernel_rfl) (fun _ _ _ h => h) (Or.inl ⟨by rfl, ?y10⟩) (by assumption) ?r10
  case y10 =>
    intro wq hSw
    have q0 := cell_of_row _ _ 0 _ _ _ hSw.1
    clear hSw
    go_simp
    with_reducible rfl
  simp only [Act.put, List.getElem_toArray, List.getElem_cons_succ, List.getElem_cons_zero, List.setIfInBounds_toArray, List.set_cons_zero, List.set_cons_succ]
  refine wpAnyH_take (i := 17) (v := ?v11) rfl (by kernel_rfl) (by kernel_rfl) (by kernel_rfl) (fun _ _ _ h => h) (Or.inl ⟨by rfl, ?y11⟩) (by assumption) ?r11
  case y11 =>
    intro wq hSw
    clear hSw
    go_simp
    with_reducible rfl
  simp only [Act.put, List.getElem_toArray, List.getElem_cons_succ, List.getElem_cons_zero, List.setIfInBounds_toArray, List.set_cons_zero, List.set_cons_succ]
  refine wpAnyH_take (i := 18) (v := ?v12) rfl (by kernel_rfl) (by kernel_rfl) (by kernel_rfl) (fun _ _ _ h => h) (Or.inl ⟨by rfl, ?y12⟩) (by assumption) ?r12
  case y12 =>
    intro wq hSw
    have q0 := cell_of_row _ _ 1 _ _ _ hSw.1
    clear hSw
    go_simp
    with_reducible rfl
  simp only [Act.put, List.getElem_toArray, List.getElem_cons_succ, List.getElem_cons_zero, List.setIfInBounds_toArray, List.set_cons_zero, List.set_cons_succ]
  refine wpAnyH_ready (rs := [16]) (by kernel_rfl) (by simp) ?_
  refine AllReadyH.cons rfl (fun K hK => ?_) AllReadyH.nil
  rw [if_pos (by rfl)]
  go_simp
  refine (waiting_any DF.out.d.n).mono ?_
  rintro e w' ⟨rfl, rfl⟩
  dsimp only
  refine hK.out _ _ (⟨DF.out.dx, DF.out.ax⟩) (fun hHeld => ?_)
  clear hK K
  refine wpAnyH_ready (rs := [19]) (by kernel_rfl) (by simp) ?_
  refine AllReadyH.cons rfl (fun K hK => ?_) AllReadyH.nil
  rw [if_pos (by rfl)]
  go_simp
  refine (rwaiting_any DF.out.d.r).mono ?_
  rintro e w' ⟨rfl, rfl⟩
  dsimp only
  refine hK.out _ _ (⟨DF.out.dx, DF.out.ax⟩) (fun hHeld => ?_)
  clear hK K
  refine wpAnyH_take (i := 20) (v := ?v13) rfl (by kernel_rfl) (by kernel_rfl) (by kernel_rfl) (fun _ _ _ h => h) (Or.inl ⟨by rfl, ?y13⟩) (by assumption) ?r13
  case y13 =>
    intro wq hSw
    clear hSw
    go_simp
    with_reducible rfl
  simp only [Act.put, List.getElem_toArray, List.getElem_cons_succ, List.getElem_cons_zero, List.setIfInBounds_toArray, List.set_cons_zero, List.set_cons_succ]
  refine wpAnyH_take (i := 21) (v := ?v14) rfl (by kernel_rfl) (by kernel_rfl) (by kernel_rfl) (fun _ _ _ h => h) (Or.inl ⟨by rfl, ?y14⟩) (by assumption) ?r14
  case y14 =>
    intro wq hSw
    clear hSw
    go_simp
    with_reducible rfl
  simp only [Act.put, List.getElem_toArray, List.getElem_cons_succ, List.getElem_cons_zero, List.setIfInBounds_toArray, List.set_cons_zero, List.set_cons_succ]
  refine wpAnyH_take (i := 22) (v := ?v15) rfl (by kernel_rfl) (by kernel_rfl) (by kernel_rfl) (fun _ _ _ h => h) (Or.inl ⟨by rfl, ?y15⟩) (by assumption) ?r15
  case y15 =>
    intro wq hSw
    clear hSw
    go_simp
    with_reducible rfl
  simp only [Act.put, List.getElem_toArray, List.getElem_cons_succ, List.getElem_cons_zero, List.setIfInBounds_toArray, List.set_cons_zero, List.set_cons_succ]
  refine wpAnyH_done (by kernel_rfl) ?_ _
  go_wp2_with fail
  go_ret
  refine ⟨rfl, vr1, vr2, DF.out.d, ?_⟩
  exact K0.out.zero.trans KA.out fun q hq => .inl hq

end Go.Proofs.Ytlkamfmepjddkaa
