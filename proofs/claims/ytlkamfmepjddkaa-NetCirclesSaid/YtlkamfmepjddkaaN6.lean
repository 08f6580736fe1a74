/- What a call of the model's leaves. -/
import Derived.Test.YtlkamfmepjddkaaWc
set_option linter.unusedSimpArgs false
set_option linter.unusedVariables false
namespace Go.Proofs.Ytlkamfmepjddkaa
open Go.RowKit Go.Lib Go.Maps

theorem RefP.not_foot {w : World} {B : Nat} {V : RV} {s : NS} (h : RefP w B V s) {k : Nat} {cs : Array Value} {t : TypeId} {fr : Nat × Nat} (hk : w.heap[k]? = some (.cells cs t fr)) (h1 : t ≠ 63) (h2 : t ≠ 50) (h3 : t ≠ 3) : ¬ V.foot k := by
  rintro (rfl | e | e)
  · rw [h.obj] at hk; cases hk; exact h1 rfl
  · obtain ⟨_, _, cur, hc⟩ := ownsRow_block h.ask e
    rw [hc] at hk; cases hk; exact h3 rfl
  · obtain ⟨_, _, cur, hc⟩ := ownsRow_block h.rep e
    rw [hc] at hk; cases hk; exact h2 rfl
theorem RefP.own_foot {w : World} {B : Nat} {V : RV} {s : NS} (h : RefP w B V s) {e : TypeId} {sz n : Nat} {v : Value} {xs : List Value} (ho : w.ownsRow B e sz v n xs) (h1 : e ≠ 63) (h2 : e ≠ 50) (h3 : e ≠ 3) : ∀ k, v.ownBlock = some k → ¬ V.foot k := by
  intro k hk
  obtain ⟨_, _, cur, hc⟩ := ownsRow_block ho hk
  exact h.not_foot hc h1 h2 h3

theorem RefP.build {w w' : World} {B : Nat} {V : RV} {s s' : NS} (h : RefP w B V s) (hk : Kp V.foot w w') (vr' : Value) (hp : s'.packets = s.packets) (ho : s'.old = s.old) (hs : s'.scripts = s.scripts)
    (hobj : w'.heap[V.b]? = some (.cells #[V.vp, V.vo, V.vs, V.va, .int .i64 (s'.n : Int), vr'] 63 (0, 0)))
    (hask : w'.ownsRow B 3 1 V.va s'.asked.length (askV s'.asked))
    (hrep : w'.ownsRow B 50 4 vr' s'.replies.length (rps s'.replies)) (hok : NOk s') : RefP w' B { V with vr := vr' } s' where
  hB := h.hB
  obj := hobj
  pk := by rw [hp]; exact hk.own h.pk (h.own_foot h.pk (by decide) (by decide) (by decide))
  old := by rw [ho]; exact hk.own h.old (h.own_foot h.old (by decide) (by decide) (by decide))
  scr := by rw [hs]; exact hk.own h.scr (h.own_foot h.scr (by decide) (by decide) (by decide))
  each := fun i m l hm hl => by
    rw [hs] at hl
    have h1 := h.each i m l hm hl
    exact hk.own h1 (h.own_foot h1 (by decide) (by decide) (by decide))
  ask := hask
  rep := hrep
  ok := hok

theorem RefP.b_rep {w : World} {B : Nat} {V : RV} {s : NS} (h : RefP w B V s) : V.vr.ownBlock ≠ some V.b := other_type h.rep h.obj (by decide)
theorem RefP.b_ask {w : World} {B : Nat} {V : RV} {s : NS} (h : RefP w B V s) : V.va.ownBlock ≠ some V.b := other_type h.ask h.obj (by decide)
theorem RefP.rep_ask {w : World} {B : Nat} {V : RV} {s : NS} (h : RefP w B V s) {k : Nat} (hk : V.vr.ownBlock = some k) : V.va.ownBlock ≠ some k := by
  obtain ⟨_, _, cur, hc⟩ := ownsRow_block h.rep hk
  exact other_type h.ask hc (by decide)

/-- What a call of a method of the model's leaves. -/
def RAskPost (w : World) (B : Nat) (V : RV) (st' : NS) (v : Value) (e : Ending) (w' : World) : Prop :=
  e = .returned v ∧ ∃ vr', RefP w' B { V with vr := vr' } st' ∧ Kp V.foot w w' ∧ (∀ k, vr'.ownBlock = some k → V.vr.ownBlock = some k ∨ w.heap.size ≤ k)

/-- One cell of a row turns. -/
theorem own_set {w : World} {B : Nat} {e : TypeId} {v : Value} {n : Nat} {xs : List Value} (h : w.ownsRow B e 1 v n xs) {g : Nat} (hg : v.ownBlock = some g) (j : Nat) (hj : j < n) (u : Value) :
    (w.setCell ⟨g, j, none⟩ u).ownsRow B e 1 v n (xs.set j u) := by
  refine ⟨by rw [List.length_set]; exact h.1, ?_⟩
  rcases h.2 with ⟨rfl, rfl⟩ | ⟨g', cap, cur, rfl, hb, hh, hn, hm, hs, ht⟩
  · omega
  · obtain rfl : g' = g := by simpa [Value.ownBlock] using hg
    refine .inr ⟨g', cap, _, rfl, hb, heap_setCell_same w g' j cur e u hh, hn, hm, by simpa using hs, ?_⟩
    rw [Array.toList_setIfInBounds, Nat.mul_one] at *
    rw [← ht, List.take_set]

theorem askV_set (l : List Nat) (j k : Nat) : askV (l.set j k) = (askV l).set j (.int .i64 (k : Int)) := by simp [askV, List.map_set]

/-- One reply more. -/
theorem rrep_step {wr w6 : World} {B : Nat} {V : RV} {s : NS} (r : Rp) {v6 : Value} (hN : RefP wr B V s) (hk : Kp (fun q => V.vr.ownBlock = some q) wr w6) (ho : w6.ownsRow B 50 4 v6 (s.replies.length + 1) (rps s.replies ++ rpCells r))
    (hok : NOk { s with replies := s.replies ++ [r] }) : RefP (w6.setCell ⟨V.b, 5, none⟩ v6) B { V with vr := v6 } { s with replies := s.replies ++ [r] } := by
  have hobj := hk.heap hN.obj hN.b_rep
  have hst : Kp (fun q => q = V.b) w6 (w6.setCell ⟨V.b, 5, none⟩ v6) := Kp.setCell (F := fun q => q = V.b) w6 (a := ⟨V.b, 5, none⟩) _ rfl
  have kS : Kp (fun q => q = V.b ∨ V.vr.ownBlock = some q) wr (w6.setCell ⟨V.b, 5, none⟩ v6) := (hk.mono (G := fun q => q = V.b ∨ V.vr.ownBlock = some q) fun q h => .inl (.inr h)).trans hst fun q h => .inl (.inl h)
  refine hN.build (kS.mono fun q h => .inl ?_) v6 rfl rfl rfl ?_ ?_ ?_ hok
  · rcases h with h | h
    · exact .inl h
    · exact .inr (.inr h)
  · rw [heap_setCell_same _ V.b 5 _ 63 _ hobj]
    rfl
  · exact kS.own hN.ask fun q hq e => by
      rcases e with rfl | e
      · exact hN.b_ask hq
      · exact hN.rep_ask e hq
  · have h6 : w6.ownsRow B 50 4 v6 (s.replies ++ [r]).length (rps (s.replies ++ [r])) := by rw [rps_snoc, List.length_append]; exact ho
    exact hst.own h6 fun q hq e => other_type h6 hobj (by decide) (by rw [hq, e])

end Go.Proofs.Ytlkamfmepjddkaa
