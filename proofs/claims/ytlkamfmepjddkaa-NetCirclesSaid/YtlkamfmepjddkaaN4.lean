/- What a call leaves of a net: the parts that it does not write. -/
import Derived.Test.YtlkamfmepjddkaaW7
set_option linter.unusedSimpArgs false
set_option linter.unusedVariables false
namespace Go.Proofs.Ytlkamfmepjddkaa
open Go.RowKit Go.Lib Go.Maps

theorem NetP.mirAt {w : World} {B : Nat} {V : NV} {s : NS} (h : NetP w B V s) {m : Nat × Value} (hm : m ∈ V.ms) : ∃ (i : Nat) (l : List Bh) (a : Nat), V.ms[i]? = some m ∧ s.scripts[i]? = some l ∧ s.asked[i]? = some a ∧ MirP w B m l a := by
  obtain ⟨i, hi⟩ := List.getElem?_of_mem hm
  have h1 : i < s.scripts.length := by rw [← h.ml]; exact (List.getElem?_eq_some_iff.1 hi).1
  have h2 : i < s.asked.length := by rw [h.ok.la]; exact h1
  exact ⟨i, _, _, hi, List.getElem?_eq_getElem h1, List.getElem?_eq_getElem h2, h.each i m _ _ hi (List.getElem?_eq_getElem h1) (List.getElem?_eq_getElem h2)⟩

/-- A row of another type is no block that a call writes. -/
theorem NetP.not_foot {w : World} {B : Nat} {V : NV} {s : NS} (h : NetP w B V s) {k : Nat} {cs : Array Value} {t : TypeId} {fr : Nat × Nat} (hk : w.heap[k]? = some (.cells cs t fr)) (h1 : t ≠ 71) (h2 : t ≠ 50) (h3 : t ≠ 83) : ¬ V.foot k := by
  rintro (rfl | e | ⟨m, hm, rfl⟩)
  · rw [h.obj] at hk; cases hk; exact h1 rfl
  · obtain ⟨_, _, cur, hc⟩ := ownsRow_block h.rep e
    rw [hc] at hk; cases hk; exact h2 rfl
  · obtain ⟨_, _, _, _, _, _, M⟩ := h.mirAt hm
    obtain ⟨c, hc, _⟩ := M.cnt
    rw [hc] at hk; cases hk; exact h3 rfl
theorem NetP.not_footM {w : World} {B : Nat} {V : NV} {s : NS} (h : NetP w B V s) {k : Nat} {es : Array MapEntry} {c : Nat} (hk : w.heap[k]? = some (.map es c)) : ¬ V.foot k := by
  rintro (rfl | e | ⟨m, hm, rfl⟩)
  · rw [h.obj] at hk; cases hk
  · obtain ⟨_, _, cur, hc⟩ := ownsRow_block h.rep e
    rw [hc] at hk; cases hk
  · obtain ⟨_, _, _, _, _, _, M⟩ := h.mirAt hm
    obtain ⟨c, hc, _⟩ := M.cnt
    rw [hc] at hk; cases hk
theorem NetP.own_foot {w : World} {B : Nat} {V : NV} {s : NS} (h : NetP w B V s) {e : TypeId} {sz n : Nat} {v : Value} {xs : List Value} (ho : w.ownsRow B e sz v n xs) (h1 : e ≠ 71) (h2 : e ≠ 50) (h3 : e ≠ 83) : ∀ k, v.ownBlock = some k → ¬ V.foot k := by
  intro k hk
  obtain ⟨_, _, cur, hc⟩ := ownsRow_block ho hk
  exact h.not_foot hc h1 h2 h3

theorem NetP.build {w w' : World} {B : Nat} {V : NV} {s s' : NS} (h : NetP w B V s) (hk : Kp V.foot w w') (vr' : Value) (hp : s'.packets = s.packets) (ho : s'.old = s.old) (hs : s'.scripts = s.scripts)
    (hobj : w'.heap[V.b]? = some (.cells #[V.vp, V.vo, V.vm, V.vi, .int .i64 (s'.n : Int), vr'] 71 (0, 0)))
    (heach : ∀ (i : Nat) m l a, V.ms[i]? = some m → s.scripts[i]? = some l → s'.asked[i]? = some a → MirP w' B m l a)
    (hrep : w'.ownsRow B 50 4 vr' s'.replies.length (rps s'.replies)) (hok : NOk s') : NetP w' B { V with vr := vr' } s' where
  hB := h.hB
  obj := hobj
  pk := by rw [hp]; exact hk.own h.pk (h.own_foot h.pk (by decide) (by decide) (by decide))
  old := by rw [ho]; exact hk.own h.old (h.own_foot h.old (by decide) (by decide) (by decide))
  mp := by
    rw [hp]
    rcases h.mp with e | ⟨g, n, e, hB, hq⟩
    · exact .inl e
    · refine .inr ⟨g, n, e, hB, hq.keep hk ?_⟩
      obtain ⟨D, ⟨es, clock, hb, _⟩, _⟩ := hq
      exact h.not_footM hb
  mir := by rw [hs]; exact hk.own h.mir (h.own_foot h.mir (by decide) (by decide) (by decide))
  each := fun i m l a hm hl ha => heach i m l a hm (by rw [← hs]; exact hl) ha
  nd := h.nd
  rep := hrep
  ok := hok

/-- A mirror whose block is not written. -/
theorem NetP.mir_keep {w w' : World} {B : Nat} {V : NV} {s : NS} (h : NetP w B V s) {F : Nat → Prop} (hk : Kp F w w') (hF : ∀ k, F k → V.foot k) {i : Nat} {m : Nat × Value} {l : List Bh} {a : Nat} (hm : V.ms[i]? = some m) (hl : s.scripts[i]? = some l) (ha : s.asked[i]? = some a) (hn : ¬ F m.1) : MirP w' B m l a := by
  have M := h.each i m l a hm hl ha
  exact M.keep hk hn fun k hk hf => h.own_foot M.scr (by decide) (by decide) (by decide) k hk (hF k hf)

theorem NetP.b_mir {w : World} {B : Nat} {V : NV} {s : NS} (h : NetP w B V s) {m : Nat × Value} (hm : m ∈ V.ms) : m.1 ≠ V.b := by
  obtain ⟨_, _, _, _, _, _, M⟩ := h.mirAt hm
  obtain ⟨c, hc, _⟩ := M.cnt
  intro e
  rw [e, h.obj] at hc
  injection hc with hc
  injection hc with _ ht
  exact absurd ht (by decide)
theorem NetP.b_rep {w : World} {B : Nat} {V : NV} {s : NS} (h : NetP w B V s) : V.vr.ownBlock ≠ some V.b := other_type h.rep h.obj (by decide)
theorem NetP.rep_mir {w : World} {B : Nat} {V : NV} {s : NS} (h : NetP w B V s) {m : Nat × Value} (hm : m ∈ V.ms) : V.vr.ownBlock ≠ some m.1 := by
  obtain ⟨_, _, _, _, _, _, M⟩ := h.mirAt hm
  obtain ⟨c, hc, _⟩ := M.cnt
  exact other_type h.rep hc (by decide)

end Go.Proofs.Ytlkamfmepjddkaa
