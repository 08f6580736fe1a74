/- Small laws for the walks: a row of bytes that the call owns, copy into it from a slice or from a string. No conditions beyond those in each statement. -/
import Derived.Test.YtlkamfmepjddkaaRows
import Derived.WalkKit
import Derived.WalkSpells
import Derived.WalkLawsBesides
import Derived.Lib.BufferWrite
import Derived.Laws.CopyOwn
import Derived.Deep.RegionHeld3
import Derived.Deep.AppendLies
import Derived.Deep.QuietTactic
import Derived.BigQuiet
import Derived.Lib.Hide
set_option linter.unusedSimpArgs false
set_option linter.unusedVariables false
namespace Go.Proofs.Ytlkamfmepjddkaa
open Go.RowKit Go.Lib

/-- A slice value that owns the bytes l, in blocks from B on. -/
def Bts (w : World) (B : Nat) (v : Value) (l : List UInt8) : Prop := w.ownsRow B 5 1 v l.length (byteCells l)

theorem grownBy_trans {w w1 w2 : World} {r : Option Nat} (h : w.grownBy w1 r) (k : w1.grownBy w2 r) : w.grownBy w2 r :=
  ⟨k.os.trans h.os, k.tape.trans h.tape, k.output.trans h.output, Nat.le_trans h.size k.size, fun i hi hr => (k.block i (Nat.lt_of_lt_of_le hi h.size) hr).trans (h.block i hi hr)⟩

theorem grownBy_new {w w1 w2 : World} {r : Option Nat} {g : Nat} (h : w.grownBy w1 r) (k : w1.grownBy w2 (some g)) (hg : w.heap.size ≤ g) : w.grownBy w2 r :=
  ⟨k.os.trans h.os, k.tape.trans h.tape, k.output.trans h.output, Nat.le_trans h.size k.size, fun i hi hr => (k.block i (Nat.lt_of_lt_of_le hi h.size) (fun e => by cases e; omega)).trans (h.block i hi hr)⟩

theorem grownBy_setRow (w : World) (g : Nat) (cs : Array Value) : w.grownBy (w.setRow g cs) (some g) :=
  ⟨rfl, rfl, rfl, by simp, fun k _ hk => setRow_other w g k cs (fun e => hk (by simp [e]))⟩

theorem heap_setRow_same (w : World) (g : Nat) (cur cs : Array Value) (t : TypeId) (hg : w.heap[g]? = some (.cells cur t (0, 0))) : (w.setRow g cs).heap[g]? = some (.cells cs t (0, 0)) :=
  setRow_heap w g cur cs t _ hg

/-- copy from a slice into a row that is known whole. -/
theorem wpList_copy_row2 {P : Program} {w : World} {ops : Array Oper} {rest : List Oper} {o : Oper} {a : Act} {Q : Exit → Act → World → Prop} (hgd : o.guard = none) (d s : Operand) (dT sT : TypeId)
    (ho : o.op = .call { callee := .builtin .copy, args := #[d, s], argTypes := #[dT, sT] }) (elem : TypeId) (hu : P.underlying dT = some (.slice elem)) (hsz : (P.info? elem).map (·.size) = some 1)
    (dp sp : Option Addr) (dLen dCap sLen sCap : Nat) (hd : a.eval d = .slice dp dLen dCap) (hs : a.eval s = .slice sp sLen sCap)
    (g off : Nat) (cur : List Value) (t : TypeId) (hg : w.heap[g]? = some (.cells cur.toArray t (0, 0))) (cs : List Value) (hn : cs.length = Nat.min sLen dLen)
    (hpos : 0 < cs.length → dp = some ⟨g, off, none⟩ ∧ ∃ ad, sp = some ad ∧ ∀ j v, cs[j]? = some v → w.cell? (ad.add j) = some v)
    (hfit : off + cs.length ≤ cur.length) (h1 : ∀ v ∈ cs, v.oneCell' = true)
    (h : ∀ w', w'.heap[g]? = some (.cells (splice cur off cs).toArray t (0, 0)) → w.grownBy w' (some g) → wpList P ops Q rest (a.put o.dst (goInt cs.length)) w') :
    wpList P ops Q (o :: rest) a w := by
  by_cases h0 : cs.length = 0
  · obtain rfl : cs = [] := List.eq_nil_of_length_eq_zero h0
    refine wpList_copy_nothing hgd d s dT sT ho elem hu hsz dp sp dLen dCap sLen sCap hd hs (by simpa using hn.symm) ?_
    exact h w (by simpa [splice] using hg) (World.grownBy.refl _ _)
  · obtain ⟨rfl, ad, rfl, hsrc⟩ := hpos (by omega)
    refine wpList_copy_own hgd d s dT sT ho elem hu hsz g off dLen dCap ad sLen sCap hd hs cur.toArray t hg cs hn hsrc (by simpa using hfit) h1 ?_
    exact h _ (by rw [heap_setRow_same w g _ _ t hg]; rfl) (grownBy_setRow _ _ _)

/-- copy from a string that fits into a row that is known whole. -/
theorem wpList_copy_str {P : Program} {w : World} {ops : Array Oper} {rest : List Oper} {o : Oper} {a : Act} {Q : Exit → Act → World → Prop} (hgd : o.guard = none) (d s : Operand) (dT sT : TypeId)
    (ho : o.op = .call { callee := .builtin .copy, args := #[d, s], argTypes := #[dT, sT] }) (elem : TypeId) (hu : P.underlying dT = some (.slice elem)) (hsz : (P.info? elem).map (·.size) = some 1)
    (dp : Option Addr) (dLen dCap : Nat) (str : ByteArray) (hd : a.eval d = .slice dp dLen dCap) (hs : a.eval s = .string str) (hle : str.size ≤ dLen)
    (g off : Nat) (cur : List Value) (t : TypeId) (hg : w.heap[g]? = some (.cells cur.toArray t (0, 0)))
    (hpos : 0 < str.size → dp = some ⟨g, off, none⟩) (hfit : off + str.size ≤ cur.length)
    (h : ∀ w', w'.heap[g]? = some (.cells (splice cur off (byteCells str.data.toList)).toArray t (0, 0)) → w.grownBy w' (some g) → wpList P ops Q rest (a.put o.dst (goInt str.size)) w') :
    wpList P ops Q (o :: rest) a w := by
  refine wpList_plain hgd fun K hK => ?_
  have hl : (byteCells str.data.toList).length = str.size := by rw [byteCells_length, ← size_eq]
  by_cases h0 : str.size = 0
  · have hrun := run_copy_empty_string (P := P) w dT sT o.type elem dp dLen dCap str hu (by cases hq : P.info? elem <;> simp_all) h0
    have hb : byteCells str.data.toList = [] := List.eq_nil_of_length_eq_zero (by omega)
    unfold Oper.wp
    simp [execOp, ho, resolve, invoke, builtin, hd, hs, hrun, Result.andThen]
    refine hK _ _ ?_
    have := h w (by rw [hb]; simpa [splice] using hg) (World.grownBy.refl _ _)
    rw [h0] at this
    exact this
  · obtain rfl := hpos (by omega)
    have hrun := run_copy_row_string (P := P) w dT sT o.type elem g off dLen dCap str cur.toArray t hu hsz hg hle (by simpa using hfit)
    unfold Oper.wp
    simp [execOp, ho, resolve, invoke, builtin, hd, hs, hrun, Result.andThen]
    refine hK _ _ (h _ ?_ (by simpa using grownBy_setRow _ _ _))
    have hh := heap_setRow_same w g cur.toArray (splice cur off (byteCells str.data.toList)).toArray t hg
    simp only [splice, hl] at hh ⊢
    simpa [List.append_assoc] using hh

/-- copy from an empty string: nothing turns. -/
theorem wpList_copy_str0 {P : Program} {w : World} {ops : Array Oper} {rest : List Oper} {o : Oper} {a : Act} {Q : Exit → Act → World → Prop} (hgd : o.guard = none) (d s : Operand) (dT sT : TypeId)
    (ho : o.op = .call { callee := .builtin .copy, args := #[d, s], argTypes := #[dT, sT] }) (elem : TypeId) (hu : P.underlying dT = some (.slice elem)) (hsz : (P.info? elem).map (·.size) = some 1)
    (dp : Option Addr) (dLen dCap : Nat) (str : ByteArray) (hd : a.eval d = .slice dp dLen dCap) (hs : a.eval s = .string str) (h0 : str.size = 0)
    (h : wpList P ops Q rest (a.put o.dst (goInt 0)) w) :
    wpList P ops Q (o :: rest) a w := by
  refine wpList_plain hgd fun K hK => ?_
  have hrun := run_copy_empty_string (P := P) w dT sT o.type elem dp dLen dCap str hu (by cases hq : P.info? elem <;> simp_all) h0
  unfold Oper.wp
  simp [execOp, ho, resolve, invoke, builtin, hd, hs, hrun, Result.andThen]
  exact hK _ _ h

/-- min of two integers, its value given. -/
theorem wpList_min {P : Program} {w : World} {ops : Array Oper} {rest : List Oper} {o : Oper} {a : Act} {Q : Exit → Act → World → Prop} (hgd : o.guard = none) (x y : Operand) (ts : Array TypeId)
    (ho : o.op = .call { callee := .builtin .min, args := #[x, y], argTypes := ts }) (k : IntKind) (p q r : Int) (hx : a.eval x = .int k p) (hy : a.eval y = .int k q) (hr : r = min p q)
    (h : wpList P ops Q rest (a.put o.dst (.int k r)) w) : wpList P ops Q (o :: rest) a w := by
  refine wpList_plain hgd fun K hK => ?_
  have hrun := run_min_int2 (P := P) w ts o.type k k p q
  have e : (if q < p then q else p) = r := by rw [hr]; split <;> omega
  rw [e] at hrun
  unfold Oper.wp
  simp [execOp, ho, resolve, invoke, builtin, hx, hy, hrun, Result.andThen]
  exact hK _ _ h

/-- A row of bytes, out of its block. -/
theorem Bts.mk {w : World} {B g cap : Nat} {cur : Array Value} {c : List UInt8} (hg : w.heap[g]? = some (.cells cur 5 (0, 0))) (hB : B ≤ g) (hn : c.length ≤ cap) (hm : cap ≤ maxLen) (hs : cur.size = cap)
    (ht : cur.toList.take c.length = byteCells c) : Bts w B (.slice (some ⟨g, 0, none⟩) c.length cap) c :=
  ⟨by rw [byteCells_length, Nat.mul_one], .inr ⟨g, cap, cur, rfl, hB, hg, hn, hm, by rw [Nat.mul_one]; exact hs, by rw [Nat.mul_one]; exact ht⟩⟩

/-- The two shapes of such a value. -/
theorem Bts.cases {w : World} {B : Nat} {v : Value} {c : List UInt8} (h : Bts w B v c) :
    (v = .slice none 0 0 ∧ c = []) ∨ ∃ g cap cur, v = .slice (some ⟨g, 0, none⟩) c.length cap ∧ B ≤ g ∧ w.heap[g]? = some (.cells cur 5 (0, 0)) ∧ c.length ≤ cap ∧ cap ≤ maxLen ∧ cur.size = cap ∧ cur.toList.take c.length = byteCells c := by
  rcases h.2 with ⟨h, h0⟩ | ⟨g, cap, cur, h1, h2, h3, h4, h5, h6, h7⟩
  · exact .inl ⟨h, List.eq_nil_of_length_eq_zero h0⟩
  · exact .inr ⟨g, cap, cur, h1, h2, h3, h4, h5, by simpa using h6, by simpa using h7⟩

/-- A uniform view: length, and the cells where there are any. -/
theorem Bts.view {w : World} {B : Nat} {v : Value} {c : List UInt8} (h : Bts w B v c) :
    ∃ sp cap, v = .slice sp c.length cap ∧ (0 < c.length → ∃ ad, sp = some ad ∧ ∀ j u, (byteCells c)[j]? = some u → w.cell? (ad.add j) = some u) := by
  rcases h.cases with ⟨rfl, rfl⟩ | ⟨g, cap, cur, rfl, _⟩
  · exact ⟨none, 0, rfl, fun h => by simp at h⟩
  · exact ⟨_, _, rfl, fun _ => ⟨_, rfl, World.ownsRow.cells h rfl⟩⟩

theorem Bts.kept {w w' : World} {B : Nat} {v : Value} {c : List UInt8} {r : Option Nat} (h : Bts w B v c) (hg : w.grownBy w' r) (hne : v.ownBlock = none ∨ v.ownBlock ≠ r) : Bts w' B v c := World.ownsRow.kept h hg hne

/-- What stands after a text was written at an offset. -/
def putL (c : List UInt8) (off : Nat) (s : List UInt8) : List UInt8 := splice (c ++ List.replicate (off + s.length - c.length) 0) off s

theorem putL_length (c : List UInt8) (off : Nat) (s : List UInt8) : (putL c off s).length = max c.length (off + s.length) := by
  unfold putL
  rw [length_splice]
  · simp; omega
  · simp; omega

theorem byteCells_append (a b : List UInt8) : byteCells (a ++ b) = byteCells a ++ byteCells b := by simp [byteCells]
theorem byteCells_take (a : List UInt8) (n : Nat) : byteCells (a.take n) = (byteCells a).take n := by simp [byteCells, List.map_take]
theorem byteCells_drop (a : List UInt8) (n : Nat) : byteCells (a.drop n) = (byteCells a).drop n := by simp [byteCells, List.map_drop]
theorem byteCells_splice (a : List UInt8) (n : Nat) (b : List UInt8) : byteCells (splice a n b) = splice (byteCells a) n (byteCells b) := by
  simp [splice, byteCells_append, byteCells_take, byteCells_drop, byteCells_length]
theorem byteCells_zeros (n : Nat) : byteCells (List.replicate n 0) = List.replicate n (.int .u8 0) := by simp [byteCells]
theorem madeCells_zeros (n : Nat) : (madeCells #[.int .u8 0] n).toList = List.replicate n (.int .u8 0) := by
  apply List.ext_getElem?
  intro j
  simp [madeCells, List.getElem?_replicate, List.getElem?_map]
  by_cases h : j < n <;> simp [h, Nat.mod_one]

/-- A slice from an offset on, its address a letter. -/
theorem slice_from {P : Program} (T e : TypeId) (hT : P.underlying T = some (.slice e)) (he : P.elem T = e) (hsz : ∀ w, (sizeOf e).run P w = .ok 1 w) (g n cap off : Nat) (h : off ≤ n) (_h2 : n ≤ cap) :
    ∃ dp, (off < cap → dp = some ⟨g, off, none⟩) ∧ ∀ u : World, (Instr.slice T (.slice (some ⟨g, 0, none⟩) n cap) (some (.int .i64 off)) none none).run P u = .ok (.slice dp (n - off) (cap - off)) u := by
  refine ⟨if cap = off then some ⟨g, 0, none⟩ else some ((⟨g, 0, none⟩ : Addr).add (off * 1)), fun h => ?_, fun u => ?_⟩
  · rw [if_neg (by omega), Addr.add_lit]
    simp
  · subst he
    rw [run_slice_l u T (some ⟨g, 0, none⟩) n cap hT .i64 off (by omega) (by omega), hsz]
    simp [Result.andThen, sliced]

theorem Try.info5 : (Try.prog.info? 5).map (fun i => (i.zero, i.size, i.bytes)) = some (some (.int .u8 0), 1, 1) := by kernel_rfl

/-- All but the blocks of F, of what was there, is as it was. -/
structure Kp (F : Nat → Prop) (w w' : World) : Prop where
  os : w'.os = w.os
  tape : w'.tape = w.tape
  output : w'.output = w.output
  size : w.heap.size ≤ w'.heap.size
  block : ∀ k, k < w.heap.size → ¬ F k → w'.heap[k]? = w.heap[k]?

theorem Kp.refl (F : Nat → Prop) (w : World) : Kp F w w := ⟨rfl, rfl, rfl, Nat.le_refl _, fun _ _ _ => rfl⟩
theorem Kp.trans {F G : Nat → Prop} {w w1 w2 : World} (h : Kp F w w1) (k : Kp G w1 w2) (hG : ∀ k, G k → F k ∨ w.heap.size ≤ k) : Kp F w w2 :=
  ⟨k.os.trans h.os, k.tape.trans h.tape, k.output.trans h.output, Nat.le_trans h.size k.size, fun i hi hf =>
    (k.block i (Nat.lt_of_lt_of_le hi h.size) (fun hg => by rcases hG i hg with h1 | h1; exact hf h1; omega)).trans (h.block i hi hf)⟩
theorem Kp.mono {F G : Nat → Prop} {w w' : World} (h : Kp F w w') (hG : ∀ k, F k → G k ∨ w.heap.size ≤ k) : Kp G w w' :=
  ⟨h.os, h.tape, h.output, h.size, fun i hi hf => h.block i hi fun h1 => by rcases hG i h1 with h2 | h2; exact hf h2; omega⟩
theorem Kp.grown {F : Nat → Prop} {w w' : World} {r : Option Nat} (h : w.grownBy w' r) (hr : ∀ k, r = some k → F k) : Kp F w w' :=
  ⟨h.os, h.tape, h.output, h.size, fun i hi hf => h.block i hi fun e => hf (hr i e.symm)⟩
theorem Kp.alloc (F : Nat → Prop) (w : World) (o : Obj) : Kp F w (w.alloc o) := ⟨rfl, rfl, rfl, by simp, fun k hk _ => Below.heap_alloc _ _ _ hk⟩
theorem Kp.drew (F : Nat → Prop) (w : World) : Kp F w w.drew := ⟨rfl, rfl, rfl, Nat.le_refl _, fun _ _ _ => rfl⟩
theorem Kp.setCell {F : Nat → Prop} (w : World) {a : Addr} (u : Value) (h : F a.block) : Kp F w (w.setCell a u) :=
  ⟨rfl, rfl, rfl, by simp [World.setCell], fun k _ hf => Below.heap_setCell _ _ _ _ (fun e => hf (by rw [e]; exact h))⟩
theorem Kp.below {F : Nat → Prop} {w w' : World} {B : Nat} (h : Kp F w w') (hF : ∀ k, F k → B ≤ k) (hB : B ≤ w.heap.size) : Below B w w' :=
  ⟨h.os, h.tape, h.output, h.size, fun k hk => h.block k (by omega) (fun hf => by have := hF k hf; omega)⟩
theorem Kp.own {F : Nat → Prop} {w w' : World} {B : Nat} {e : TypeId} {sz : Nat} {v : Value} {n : Nat} {xs : List Value} (h : Kp F w w') (ho : w.ownsRow B e sz v n xs) (hF : ∀ k, v.ownBlock = some k → ¬ F k) : w'.ownsRow B e sz v n xs := by
  refine ⟨ho.1, ?_⟩
  rcases ho.2 with hn | ⟨g, cap, cur, rfl, hb, hgg, rest⟩
  · exact .inl hn
  · refine .inr ⟨g, cap, cur, rfl, hb, ?_, rest⟩
    rw [h.block g (Array.getElem?_eq_some_iff.1 hgg).1 (hF g rfl)]
    exact hgg

theorem ownsRow_block {w : World} {B : Nat} {e : TypeId} {sz : Nat} {v : Value} {n : Nat} {xs : List Value} (h : w.ownsRow B e sz v n xs) {k : Nat} (hk : v.ownBlock = some k) :
    B ≤ k ∧ k < w.heap.size ∧ ∃ cur, w.heap[k]? = some (.cells cur e (0, 0)) := by
  rcases h.2 with ⟨rfl, _⟩ | ⟨g, cap, cur, rfl, hb, hg, _⟩
  · simp [Value.ownBlock] at hk
  · simp [Value.ownBlock] at hk
    subst hk
    exact ⟨hb, (Array.getElem?_eq_some_iff.1 hg).1, cur, hg⟩

/-- Of another type than the struct's block. -/
theorem other_type {w : World} {B : Nat} {e t : TypeId} {sz : Nat} {v : Value} {n : Nat} {xs : List Value} {b : Nat} {cs : Array Value} (h : w.ownsRow B e sz v n xs) (hb : w.heap[b]? = some (.cells cs t (0, 0))) (hne : e ≠ t) : v.ownBlock ≠ some b := by
  intro hk
  obtain ⟨_, _, cur, hc⟩ := ownsRow_block h hk
  rw [hb] at hc
  cases hc
  exact hne rfl

/-- Two rows of different element types lie apart. -/
theorem other_row {w : World} {B B' : Nat} {e e' : TypeId} {sz sz' : Nat} {v v' : Value} {n n' : Nat} {xs xs' : List Value} (h : w.ownsRow B e sz v n xs) (h' : w.ownsRow B' e' sz' v' n' xs') (hne : e ≠ e') : ∀ k, v.ownBlock = some k → v'.ownBlock ≠ some k := by
  intro k hk hk'
  obtain ⟨_, _, cur, hc⟩ := ownsRow_block h hk
  obtain ⟨_, _, cur', hc'⟩ := ownsRow_block h' hk'
  rw [hc] at hc'
  cases hc'
  exact hne rfl

theorem Kp.drewN (F : Nat → Prop) (w : World) (n : Nat) : Kp F w (w.drewN n) := ⟨rfl, rfl, rfl, Nat.le_refl _, fun _ _ _ => rfl⟩
theorem Kp.heap {F : Nat → Prop} {w w' : World} (h : Kp F w w') {x : Nat} {o : Obj} (hx : w.heap[x]? = some o) (hF : ¬ F x) : w'.heap[x]? = some o :=
  (h.block x (Array.getElem?_eq_some_iff.1 hx).1 hF).trans hx
theorem kp_drewN {w w' : World} (h : ∃ j, w' = w.drewN j) : Kp (fun _ => False) w w' := by
  obtain ⟨j, rfl⟩ := h
  exact Kp.drewN _ _ _
theorem Kp.belowS {w w' : World} (h : Kp (fun _ => False) w w') : Below w.heap.size w w' := h.below (fun _ h => h.elim) (Nat.le_refl _)
theorem ba_ext {a b : ByteArray} (h : a.data.toList = b.data.toList) : a = b := by
  obtain ⟨⟨a⟩⟩ := a
  obtain ⟨⟨b⟩⟩ := b
  simp only at h
  rw [h]
theorem ba_extract (a : ByteArray) (i j : Nat) : (a.extract i j).data.toList = (a.data.toList.drop i).take (j - i) := by
  have e : a = ⟨a.data.toList.toArray⟩ := by simp
  rw [e, ByteArray.extract_mk]
theorem Kp.cell {F : Nat → Prop} {w w' : World} (h : Kp F w w') {a : Addr} {v : Value} (hc : w.cell? a = some v) (hF : ¬ F a.block) : w'.cell? a = some v :=
  (World.cell?_of_block (h.block a.block (World.block_lt_of_cell? w _ hc) hF)).trans hc
theorem Kp.old {F : Nat → Prop} {w w1 w2 : World} (h : Kp (fun _ => False) w w1) (k : Kp F w1 w2) (hF : ∀ k, F k → w.heap.size ≤ k) : Kp (fun _ => False) w w2 := h.trans k fun j hj => .inr (hF j hj)
theorem Below.kp {w w' : World} (h : Below w.heap.size w w') : Kp (fun _ => False) w w' := ⟨h.os, h.tape, h.output, h.size, fun k hk _ => h.block k hk⟩
theorem kp_belowB {w w' : World} {B : Nat} (h : Kp (fun _ => False) w w') (hB : B ≤ w.heap.size) : Below B w w' := h.below (fun _ h => h.elim) hB

end Go.Proofs.Ytlkamfmepjddkaa
