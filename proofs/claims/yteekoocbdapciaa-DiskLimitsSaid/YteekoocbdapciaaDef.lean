/- What a world holds of a disk and of its model; what an operation keeps. Definitions and small lemmas, no walk. -/
import Derived.Test.YteekoocbdapciaaKit
namespace Go.Proofs.Yteekoocbdapciaa
open Go.RowKit Go.Lib

/-- All but the blocks of F, of what was there, is as it was. -/
structure Kp (F : Nat → Prop) (w w' : World) : Prop where
  os : w'.os = w.os
  tape : w'.tape = w.tape
  output : w'.output = w.output
  size : w.heap.size ≤ w'.heap.size
  block : ∀ k, k < w.heap.size → ¬ F k → w'.heap[k]? = w.heap[k]?

theorem Kp.refl (F : Nat → Prop) (w : World) : Kp F w w := ⟨rfl, rfl, rfl, Nat.le_refl _, fun _ _ _ => rfl⟩
theorem Kp.trans {F G : Nat → Prop} {w w1 w2 : World} (h : Kp F w w1) (k : Kp G w1 w2) (hG : ∀ k, G k → F k ∨ w.heap.size ≤ k) : Kp F w w2 :=
  ⟨k.os.trans h.os, k.tape.trans h.tape, k.output.trans h.output, Nat.le_trans h.size k.size, fun i hi hf =>
    (k.block i (Nat.lt_of_lt_of_le hi h.size) (fun hg => by rcases hG i hg with h1 | h1; exact hf h1; omega)).trans (h.block i hi hf)⟩
theorem Kp.mono {F G : Nat → Prop} {w w' : World} (h : Kp F w w') (hG : ∀ k, F k → G k ∨ w.heap.size ≤ k) : Kp G w w' :=
  ⟨h.os, h.tape, h.output, h.size, fun i hi hf => h.block i hi fun h1 => by rcases hG i h1 with h2 | h2; exact hf h2; omega⟩
theorem Kp.grown {F : Nat → Prop} {w w' : World} {r : Option Nat} (h : w.grownBy w' r) (hr : ∀ k, r = some k → F k) : Kp F w w' :=
  ⟨h.os, h.tape, h.output, h.size, fun i hi hf => h.block i hi fun e => hf (hr i e.symm)⟩
theorem Kp.alloc (F : Nat → Prop) (w : World) (o : Obj) : Kp F w (w.alloc o) := ⟨rfl, rfl, rfl, by simp, fun k hk _ => Below.heap_alloc _ _ _ hk⟩
theorem Kp.drew (F : Nat → Prop) (w : World) : Kp F w w.drew := ⟨rfl, rfl, rfl, Nat.le_refl _, fun _ _ _ => rfl⟩
theorem Kp.setCell {F : Nat → Prop} (w : World) {a : Addr} (u : Value) (h : F a.block) : Kp F w (w.setCell a u) :=
  ⟨rfl, rfl, rfl, by simp [World.setCell], fun k _ hf => Below.heap_setCell _ _ _ _ (fun e => hf (by rw [e]; exact h))⟩
theorem Kp.below {F : Nat → Prop} {w w' : World} {B : Nat} (h : Kp F w w') (hF : ∀ k, F k → B ≤ k) (hB : B ≤ w.heap.size) : Below B w w' :=
  ⟨h.os, h.tape, h.output, h.size, fun k hk => h.block k (by omega) (fun hf => by have := hF k hf; omega)⟩
theorem Kp.own {F : Nat → Prop} {w w' : World} {B : Nat} {e : TypeId} {sz : Nat} {v : Value} {n : Nat} {xs : List Value} (h : Kp F w w') (ho : w.ownsRow B e sz v n xs) (hF : ∀ k, v.ownBlock = some k → ¬ F k) : w'.ownsRow B e sz v n xs := by
  refine ⟨ho.1, ?_⟩
  rcases ho.2 with hn | ⟨g, cap, cur, rfl, hb, hgg, rest⟩
  · exact .inl hn
  · refine .inr ⟨g, cap, cur, rfl, hb, ?_, rest⟩
    rw [h.block g (Array.getElem?_eq_some_iff.1 hgg).1 (hF g rfl)]
    exact hgg

/-- The state of a disk. -/
structure DS where
  now : List UInt8
  synced : List UInt8
  later : List (Nat × ByteArray)
  calls : Int
  power : Int
  left : Int

def partCells (l : List (Nat × ByteArray)) : List Value := l.flatMap fun p => [.int .i64 p.1, .string p.2]
theorem partCells_append (a b : List (Nat × ByteArray)) : partCells (a ++ b) = partCells a ++ partCells b := by simp [partCells]
theorem partCells_length (a : List (Nat × ByteArray)) : (partCells a).length = a.length * 2 := by
  induction a with
  | nil => rfl
  | cons p l ih => simp only [partCells, List.flatMap_cons, List.length_append, List.length_cons, List.length_nil] at *; omega

/-- What a world holds of a disk at block b: its six cells, and the three slices that they own. -/
structure DiskP (w : World) (B b : Nat) (vn vs vl : Value) (s : DS) : Prop where
  hB : B ≤ b
  obj : w.heap[b]? = some (.cells #[vn, vs, vl, .int .i64 s.calls, .int .i64 s.power, .int .i64 s.left] 60 (0, 0))
  now : Bts w B vn s.now
  syn : Bts w B vs s.synced
  lat : w.ownsRow B 68 2 vl s.later.length (partCells s.later)
  apart : ∀ k, vn.ownBlock = some k → vs.ownBlock ≠ some k
  nowlen : s.now.length ≤ 16777216
  synlen : s.synced.length ≤ 16777216
  parts : ∀ p ∈ s.later, p.1 + p.2.size ≤ 16777216

def foot (b : Nat) (vn vs vl : Value) (k : Nat) : Prop := k = b ∨ vn.ownBlock = some k ∨ vs.ownBlock = some k ∨ vl.ownBlock = some k

theorem ownsRow_block {w : World} {B : Nat} {e : TypeId} {sz : Nat} {v : Value} {n : Nat} {xs : List Value} (h : w.ownsRow B e sz v n xs) {k : Nat} (hk : v.ownBlock = some k) :
    B ≤ k ∧ k < w.heap.size ∧ ∃ cur, w.heap[k]? = some (.cells cur e (0, 0)) := by
  rcases h.2 with ⟨rfl, _⟩ | ⟨g, cap, cur, rfl, hb, hg, _⟩
  · simp [Value.ownBlock] at hk
  · simp [Value.ownBlock] at hk
    subst hk
    exact ⟨hb, (Array.getElem?_eq_some_iff.1 hg).1, cur, hg⟩

theorem DiskP.lt {w : World} {B b : Nat} {vn vs vl : Value} {s : DS} (h : DiskP w B b vn vs vl s) : b < w.heap.size := (Array.getElem?_eq_some_iff.1 h.obj).1

theorem DiskP.foot_lt {w : World} {B b : Nat} {vn vs vl : Value} {s : DS} (h : DiskP w B b vn vs vl s) {k : Nat} (hk : foot b vn vs vl k) : B ≤ k ∧ k < w.heap.size := by
  rcases hk with rfl | hk | hk | hk
  · exact ⟨h.hB, h.lt⟩
  · have := ownsRow_block h.now hk; exact ⟨this.1, this.2.1⟩
  · have := ownsRow_block h.syn hk; exact ⟨this.1, this.2.1⟩
  · have := ownsRow_block h.lat hk; exact ⟨this.1, this.2.1⟩

/-- Of another type than the struct's block. -/
theorem other_type {w : World} {B : Nat} {e t : TypeId} {sz : Nat} {v : Value} {n : Nat} {xs : List Value} {b : Nat} {cs : Array Value} (h : w.ownsRow B e sz v n xs) (hb : w.heap[b]? = some (.cells cs t (0, 0))) (hne : e ≠ t) : v.ownBlock ≠ some b := by
  intro hk
  obtain ⟨_, _, cur, hc⟩ := ownsRow_block h hk
  rw [hb] at hc
  cases hc
  exact hne rfl

/-- Two rows of different element types lie apart. -/
theorem other_row {w : World} {B B' : Nat} {e e' : TypeId} {sz sz' : Nat} {v v' : Value} {n n' : Nat} {xs xs' : List Value} (h : w.ownsRow B e sz v n xs) (h' : w.ownsRow B' e' sz' v' n' xs') (hne : e ≠ e') : ∀ k, v.ownBlock = some k → v'.ownBlock ≠ some k := by
  intro k hk hk'
  obtain ⟨_, _, cur, hc⟩ := ownsRow_block h hk
  obtain ⟨_, _, cur', hc'⟩ := ownsRow_block h' hk'
  rw [hc] at hc'
  cases hc'
  exact hne rfl

theorem DiskP.keep {w w' : World} {B b : Nat} {vn vs vl : Value} {s : DS} {F : Nat → Prop} (h : DiskP w B b vn vs vl s) (hk : Kp F w w') (hF : ∀ k, foot b vn vs vl k → ¬ F k) : DiskP w' B b vn vs vl s :=
  ⟨h.hB, (hk.block b h.lt (hF b (.inl rfl))).trans h.obj, hk.own h.now fun k e => hF k (.inr (.inl e)), hk.own h.syn fun k e => hF k (.inr (.inr (.inl e))), hk.own h.lat fun k e => hF k (.inr (.inr (.inr e))), h.apart, h.nowlen, h.synlen, h.parts⟩

/-- The struct's cells, one by one. -/
theorem DiskP.cells {w : World} {B b : Nat} {vn vs vl : Value} {s : DS} (h : DiskP w B b vn vs vl s) :
    w.cell? ⟨b, 0, none⟩ = some vn ∧ w.cell? ⟨b, 1, none⟩ = some vs ∧ w.cell? ⟨b, 2, none⟩ = some vl ∧ w.cell? ⟨b, 3, none⟩ = some (.int .i64 s.calls) ∧ w.cell? ⟨b, 4, none⟩ = some (.int .i64 s.power) ∧ w.cell? ⟨b, 5, none⟩ = some (.int .i64 s.left) ∧
      ∀ j, w.frozen? ⟨b, j, none⟩ = false :=
  ⟨cell_of_row w b 0 _ _ _ h.obj, cell_of_row w b 1 _ _ _ h.obj, cell_of_row w b 2 _ _ _ h.obj, cell_of_row w b 3 _ _ _ h.obj, cell_of_row w b 4 _ _ _ h.obj, cell_of_row w b 5 _ _ _ h.obj, fun j => frozen_of_row w b j _ _ h.obj⟩

/-- A store into a cell of the struct's. -/
theorem own_setCell {w : World} {B : Nat} {e : TypeId} {sz : Nat} {v : Value} {n : Nat} {xs : List Value} (h : w.ownsRow B e sz v n xs) {b i : Nat} (u : Value) (hb : v.ownBlock ≠ some b) : (w.setCell ⟨b, i, none⟩ u).ownsRow B e sz v n xs :=
  (Kp.setCell (F := fun k => k = b) w (a := ⟨b, i, none⟩) u rfl).own h fun k hk e => hb (by rw [hk, e])

end Go.Proofs.Yteekoocbdapciaa
