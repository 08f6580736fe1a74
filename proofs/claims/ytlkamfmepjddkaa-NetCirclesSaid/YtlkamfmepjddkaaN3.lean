/- What a world holds of a net, and of its model. -/
import Derived.Test.YtlkamfmepjddkaaN2
set_option linter.unusedSimpArgs false
set_option linter.unusedVariables false
namespace Go.Proofs.Ytlkamfmepjddkaa
open Go.RowKit Go.Lib Go.Maps

/-- The values that a net's cells hold, and its mirrors: block and script. -/
structure NV where
  b : Nat
  vp : Value
  vo : Value
  vm : Value
  vi : Value
  vr : Value
  ms : List (Nat × Value)

/-- All blocks of a net's. -/
def NV.dom (V : NV) (k : Nat) : Prop := k = V.b ∨ V.vp.ownBlock = some k ∨ V.vo.ownBlock = some k ∨ V.vm = .map (some k) ∨ V.vi.ownBlock = some k ∨ V.vr.ownBlock = some k ∨ ∃ m ∈ V.ms, m.1 = k ∨ m.2.ownBlock = some k
/-- Those that a call may write. -/
def NV.foot (V : NV) (k : Nat) : Prop := k = V.b ∨ V.vr.ownBlock = some k ∨ ∃ m ∈ V.ms, m.1 = k

def mirV (ms : List (Nat × Value)) : List Value := ms.map fun m => .pointer (some ⟨m.1, 0, none⟩)

/-- A mirror. -/
structure MirP (w : World) (B : Nat) (m : Nat × Value) (l : List Bh) (a : Nat) : Prop where
  hB : B ≤ m.1
  cnt : ∃ c : Nat, w.heap[m.1]? = some (.cells #[m.2, .int .i64 (c : Int)] 83 (0, 0)) ∧ (l ≠ [] → c = a)
  scr : w.ownsRow B 42 3 m.2 l.length (bhs l)

structure NetP (w : World) (B : Nat) (V : NV) (s : NS) : Prop where
  hB : B ≤ V.b
  obj : w.heap[V.b]? = some (.cells #[V.vp, V.vo, V.vm, V.vi, .int .i64 (s.n : Int), V.vr] 71 (0, 0))
  pk : w.ownsRow B 54 33 V.vp s.packets.length (pks s.packets)
  old : w.ownsRow B 54 33 V.vo s.old.length (pks s.old)
  mp : MapP w B V.vm (wantedS s.packets)
  mir : w.ownsRow B 80 1 V.vi s.scripts.length (mirV V.ms)
  each : ∀ (i : Nat) m l a, V.ms[i]? = some m → s.scripts[i]? = some l → s.asked[i]? = some a → MirP w B m l a
  nd : ∀ (i j : Nat) m m', V.ms[i]? = some m → V.ms[j]? = some m' → m.1 = m'.1 → i = j
  rep : w.ownsRow B 50 4 V.vr s.replies.length (rps s.replies)
  ok : NOk s

theorem NetP.ml {w : World} {B : Nat} {V : NV} {s : NS} (h : NetP w B V s) : V.ms.length = s.scripts.length := by
  have := h.mir.1
  simpa [mirV] using this

theorem own_dom {w : World} {B : Nat} {e : TypeId} {sz n : Nat} {v : Value} {xs : List Value} {F : Nat → Prop} {w' : World} (h : w.ownsRow B e sz v n xs) (hk : Kp F w w') (hF : ∀ k, v.ownBlock = some k → ¬ F k) : w'.ownsRow B e sz v n xs := hk.own h hF

theorem MirP.keep {F : Nat → Prop} {w w' : World} {B : Nat} {m : Nat × Value} {l : List Bh} {a : Nat} (h : MirP w B m l a) (hk : Kp F w w') (h1 : ¬ F m.1) (h2 : ∀ k, m.2.ownBlock = some k → ¬ F k) : MirP w' B m l a := by
  obtain ⟨c, hc, ha⟩ := h.cnt
  exact ⟨h.hB, ⟨c, hk.heap hc h1, ha⟩, hk.own h.scr h2⟩

theorem NetP.keep {F : Nat → Prop} {w w' : World} {B : Nat} {V : NV} {s : NS} (h : NetP w B V s) (hk : Kp F w w') (hF : ∀ k, V.dom k → ¬ F k) : NetP w' B V s where
  hB := h.hB
  obj := hk.heap h.obj (hF _ (.inl rfl))
  pk := hk.own h.pk fun k e => hF k (.inr (.inl e))
  old := hk.own h.old fun k e => hF k (.inr (.inr (.inl e)))
  mp := h.mp.keep hk fun k e => hF k (.inr (.inr (.inr (.inl e))))
  mir := hk.own h.mir fun k e => hF k (.inr (.inr (.inr (.inr (.inl e)))))
  each := fun i m l a hm hl ha => (h.each i m l a hm hl ha).keep hk (hF _ (.inr (.inr (.inr (.inr (.inr (.inr ⟨m, List.mem_of_getElem? hm, .inl rfl⟩))))))) fun k e => hF k (.inr (.inr (.inr (.inr (.inr (.inr ⟨m, List.mem_of_getElem? hm, .inr e⟩))))))
  nd := h.nd
  rep := hk.own h.rep fun k e => hF k (.inr (.inr (.inr (.inr (.inr (.inl e))))))
  ok := h.ok
theorem NetP.keep0 {w w' : World} {B : Nat} {V : NV} {s : NS} (h : NetP w B V s) (hk : Kp (fun _ => False) w w') : NetP w' B V s := h.keep hk fun _ _ h => h

theorem NetP.lt {w : World} {B : Nat} {V : NV} {s : NS} (h : NetP w B V s) : V.b < w.heap.size := (Array.getElem?_eq_some_iff.1 h.obj).1

theorem NetP.dom_lt {w : World} {B : Nat} {V : NV} {s : NS} (h : NetP w B V s) {k : Nat} (hk : V.dom k) : B ≤ k ∧ k < w.heap.size := by
  rcases hk with rfl | hk | hk | hk | hk | hk | ⟨m, hm, hk⟩
  · exact ⟨h.hB, h.lt⟩
  · have := ownsRow_block h.pk hk; exact ⟨this.1, this.2.1⟩
  · have := ownsRow_block h.old hk; exact ⟨this.1, this.2.1⟩
  · rcases h.mp with ⟨e, _⟩ | ⟨g, n, e, hB, hq⟩
    · rw [e] at hk; cases hk
    · rw [e] at hk; cases hk; exact ⟨hB, hq.lt⟩
  · have := ownsRow_block h.mir hk; exact ⟨this.1, this.2.1⟩
  · have := ownsRow_block h.rep hk; exact ⟨this.1, this.2.1⟩
  · obtain ⟨i, hi⟩ := List.getElem?_of_mem hm
    have hlt : i < V.ms.length := (List.getElem?_eq_some_iff.1 hi).1
    have h1 : i < s.scripts.length := by rw [← h.ml]; exact hlt
    have h2 : i < s.asked.length := by rw [h.ok.la]; exact h1
    have M := h.each i m _ _ hi (List.getElem?_eq_getElem h1) (List.getElem?_eq_getElem h2)
    rcases hk with rfl | hk
    · obtain ⟨c, hc, _⟩ := M.cnt
      exact ⟨M.hB, (Array.getElem?_eq_some_iff.1 hc).1⟩
    · have := ownsRow_block M.scr hk; exact ⟨this.1, this.2.1⟩

theorem NV.foot_dom {V : NV} {k : Nat} (h : V.foot k) : V.dom k := by
  rcases h with h | h | ⟨m, hm, h⟩
  · exact .inl h
  · exact .inr (.inr (.inr (.inr (.inr (.inl h)))))
  · exact .inr (.inr (.inr (.inr (.inr (.inr ⟨m, hm, .inl h⟩)))))

/-- The values that the model's cells hold. -/
structure RV where
  b : Nat
  vp : Value
  vo : Value
  vs : Value
  va : Value
  vr : Value
  sv : List Value

def RV.dom (V : RV) (k : Nat) : Prop := k = V.b ∨ V.vp.ownBlock = some k ∨ V.vo.ownBlock = some k ∨ V.vs.ownBlock = some k ∨ V.va.ownBlock = some k ∨ V.vr.ownBlock = some k ∨ ∃ m ∈ V.sv, m.ownBlock = some k
def RV.foot (V : RV) (k : Nat) : Prop := k = V.b ∨ V.va.ownBlock = some k ∨ V.vr.ownBlock = some k

def askV (l : List Nat) : List Value := l.map fun a : Nat => .int .i64 (a : Int)

structure RefP (w : World) (B : Nat) (V : RV) (s : NS) : Prop where
  hB : B ≤ V.b
  obj : w.heap[V.b]? = some (.cells #[V.vp, V.vo, V.vs, V.va, .int .i64 (s.n : Int), V.vr] 63 (0, 0))
  pk : w.ownsRow B 54 33 V.vp s.packets.length (pks s.packets)
  old : w.ownsRow B 54 33 V.vo s.old.length (pks s.old)
  scr : w.ownsRow B 40 1 V.vs s.scripts.length V.sv
  each : ∀ (i : Nat) m l, V.sv[i]? = some m → s.scripts[i]? = some l → w.ownsRow B 42 3 m l.length (bhs l)
  ask : w.ownsRow B 3 1 V.va s.asked.length (askV s.asked)
  rep : w.ownsRow B 50 4 V.vr s.replies.length (rps s.replies)
  ok : NOk s

theorem RefP.sl {w : World} {B : Nat} {V : RV} {s : NS} (h : RefP w B V s) : V.sv.length = s.scripts.length := by
  have := h.scr.1
  simpa using this

theorem RefP.keep {F : Nat → Prop} {w w' : World} {B : Nat} {V : RV} {s : NS} (h : RefP w B V s) (hk : Kp F w w') (hF : ∀ k, V.dom k → ¬ F k) : RefP w' B V s where
  hB := h.hB
  obj := hk.heap h.obj (hF _ (.inl rfl))
  pk := hk.own h.pk fun k e => hF k (.inr (.inl e))
  old := hk.own h.old fun k e => hF k (.inr (.inr (.inl e)))
  scr := hk.own h.scr fun k e => hF k (.inr (.inr (.inr (.inl e))))
  each := fun i m l hm hl => hk.own (h.each i m l hm hl) fun k e => hF k (.inr (.inr (.inr (.inr (.inr (.inr ⟨m, List.mem_of_getElem? hm, e⟩))))))
  ask := hk.own h.ask fun k e => hF k (.inr (.inr (.inr (.inr (.inl e)))))
  rep := hk.own h.rep fun k e => hF k (.inr (.inr (.inr (.inr (.inr (.inl e))))))
  ok := h.ok
theorem RefP.keep0 {w w' : World} {B : Nat} {V : RV} {s : NS} (h : RefP w B V s) (hk : Kp (fun _ => False) w w') : RefP w' B V s := h.keep hk fun _ _ h => h
theorem RefP.lt {w : World} {B : Nat} {V : RV} {s : NS} (h : RefP w B V s) : V.b < w.heap.size := (Array.getElem?_eq_some_iff.1 h.obj).1
theorem RefP.dom_lt {w : World} {B : Nat} {V : RV} {s : NS} (h : RefP w B V s) {k : Nat} (hk : V.dom k) : B ≤ k ∧ k < w.heap.size := by
  rcases hk with rfl | hk | hk | hk | hk | hk | ⟨m, hm, hk⟩
  · exact ⟨h.hB, h.lt⟩
  · have := ownsRow_block h.pk hk; exact ⟨this.1, this.2.1⟩
  · have := ownsRow_block h.old hk; exact ⟨this.1, this.2.1⟩
  · have := ownsRow_block h.scr hk; exact ⟨this.1, this.2.1⟩
  · have := ownsRow_block h.ask hk; exact ⟨this.1, this.2.1⟩
  · have := ownsRow_block h.rep hk; exact ⟨this.1, this.2.1⟩
  · obtain ⟨i, hi⟩ := List.getElem?_of_mem hm
    have hlt : i < V.sv.length := (List.getElem?_eq_some_iff.1 hi).1
    have h1 : i < s.scripts.length := by rw [← h.sl]; exact hlt
    have := ownsRow_block (h.each i m _ hi (List.getElem?_eq_getElem h1)) hk
    exact ⟨this.1, this.2.1⟩
theorem RV.foot_dom {V : RV} {k : Nat} (h : V.foot k) : V.dom k := by
  rcases h with h | h | h
  · exact .inl h
  · exact .inr (.inr (.inr (.inr (.inl h))))
  · exact .inr (.inr (.inr (.inr (.inr (.inl h)))))

/-- The six cells of a net's struct. -/
theorem obj_cells {w : World} {b : Nat} {c0 c1 c2 c3 c4 c5 : Value} {t : TypeId} (h : w.heap[b]? = some (.cells #[c0, c1, c2, c3, c4, c5] t (0, 0))) :
    w.cell? ⟨b, 0, none⟩ = some c0 ∧ w.cell? ⟨b, 1, none⟩ = some c1 ∧ w.cell? ⟨b, 2, none⟩ = some c2 ∧ w.cell? ⟨b, 3, none⟩ = some c3 ∧ w.cell? ⟨b, 4, none⟩ = some c4 ∧ w.cell? ⟨b, 5, none⟩ = some c5 ∧ ∀ j, w.frozen? ⟨b, j, none⟩ = false :=
  ⟨cell_of_row w b 0 _ _ _ h, cell_of_row w b 1 _ _ _ h, cell_of_row w b 2 _ _ _ h, cell_of_row w b 3 _ _ _ h, cell_of_row w b 4 _ _ _ h, cell_of_row w b 5 _ _ _ h, fun j => frozen_of_row w b j _ _ h⟩

end Go.Proofs.Ytlkamfmepjddkaa
