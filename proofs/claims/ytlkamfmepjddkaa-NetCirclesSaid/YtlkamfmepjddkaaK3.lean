/- Rows that can be read, and what is appended from them; small laws on rows. -/
import Derived.Test.YtlkamfmepjddkaaK2
set_option linter.unusedSimpArgs false
set_option linter.unusedVariables false
namespace Go.Proofs.Ytlkamfmepjddkaa
open Go.RowKit Go.Lib

theorem size_list (b : ByteArray) : b.size = b.data.toList.length := by rw [size_eq]
theorem kp_setRow {F : Nat → Prop} (w : World) (g : Nat) (cs : Array Value) (h : F g) : Kp F w (w.setRow g cs) :=
  ⟨rfl, rfl, rfl, by simp, fun k _ hf => setRow_other w g k cs (fun e => hf (by rw [e]; exact h))⟩
theorem rowB_some (l : List UInt8) (k : Nat) (h : k < l.length) : (byteCells l).toArray[k]? = some (.int .u8 ((l.getD k 0).toNat : Int)) := by
  simp [byteCells, h, List.getD]
theorem ktr {G : Nat → Prop} {a b c : World} (h : Kp G a b) (k : Kp G b c) : Kp G a c := h.trans k fun _ h => .inl h
theorem Kp.zero {F : Nat → Prop} {w w' : World} (h : Kp (fun _ => False) w w') : Kp F w w' := h.mono fun _ h => h.elim

theorem addr0 (g o j : Nat) : (⟨g, o, none⟩ : Addr).add j = ⟨g, o + j, none⟩ := Addr.add_mid g o j

/-- A slice of n elements of 'size' cells each, its cells known where there are any. -/
def Src (w : World) (size : Nat) (sp : Option Addr) (n : Nat) (xs : List Value) : Prop :=
  xs.length = n * size ∧ (0 < n → ∃ g o, sp = some ⟨g, o, none⟩ ∧ w.rangeAt g o xs)

theorem rangeAt_kp {F : Nat → Prop} {w w' : World} {g o : Nat} {xs : List Value} (h : w.rangeAt g o xs) (hk : Kp F w w') (hF : ¬ F g) : w'.rangeAt g o xs := fun j v hv => hk.cell (h j v hv) hF
theorem rangeAt_lt {w : World} {g o : Nat} {xs : List Value} (h : w.rangeAt g o xs) (h0 : 0 < xs.length) : g < w.heap.size :=
  World.block_lt_of_cell? w _ (h 0 xs[0] (List.getElem?_eq_getElem h0))

/-- Blocks of the slice's, if it has elements. -/
def spIn (sp : Option Addr) (k : Nat) : Prop := ∃ o, sp = some ⟨k, o, none⟩

theorem Src.keep {F : Nat → Prop} {w w' : World} {size n : Nat} {sp : Option Addr} {xs : List Value} (h : Src w size sp n xs) (hk : Kp F w w') (hF : ∀ k, spIn sp k → ¬ F k) : Src w' size sp n xs :=
  ⟨h.1, fun hn => by
    obtain ⟨g, o, e, hr⟩ := h.2 hn
    exact ⟨g, o, e, rangeAt_kp hr hk (hF g ⟨o, e⟩)⟩⟩
theorem Src.keep0 {w w' : World} {size n : Nat} {sp : Option Addr} {xs : List Value} (h : Src w size sp n xs) (hk : Kp (fun _ => False) w w') : Src w' size sp n xs := h.keep hk fun _ _ h => h
theorem Src.nil (w : World) (size : Nat) (sp : Option Addr) : Src w size sp 0 [] := ⟨by simp, fun h => by simp at h⟩

theorem Src.of_own {w : World} {B : Nat} {e : TypeId} {size n : Nat} {v : Value} {xs : List Value} (h : w.ownsRow B e size v n xs) : ∃ sp cap, v = .slice sp n cap ∧ n ≤ cap ∧ cap ≤ 9223372036854775807 ∧ Src w size sp n xs ∧ (∀ k, spIn sp k → v.ownBlock = some k) := by
  have hx := h
  rcases h.2 with ⟨rfl, rfl⟩ | ⟨g, cap, cur, rfl, hb, hg, hn, hm, hs, ht⟩
  · exact ⟨none, 0, rfl, Nat.le_refl _, by omega, ⟨h.1, fun h => by simp at h⟩, fun k ⟨o, e⟩ => by cases e⟩
  · refine ⟨_, cap, rfl, hn, by simpa [maxLen] using hm, ⟨h.1, fun _ => ⟨g, 0, rfl, fun j u hu => ?_⟩⟩, fun k ⟨o, e⟩ => by cases e; rfl⟩
    have := World.ownsRow.cells hx rfl j u hu
    rwa [addr0] at this

/-- The row made for one element. -/
theorem Src.one (w : World) (t : TypeId) (size : Nat) (xs : List Value) (hl : xs.length = size) : Src (w.alloc (.cells xs.toArray t)) size (some ⟨w.heap.size, 0, none⟩) 1 xs :=
  ⟨by omega, fun _ => ⟨_, 0, rfl, fun j v hv => by
    rw [Nat.zero_add, cell_of_row _ _ _ _ _ _ (heap_alloc_new w _)]
    simpa using hv⟩⟩

section
variable {P : Program}
/-- What 'append' of such a slice onto a row of the call's own gives. -/
theorem run_append_src (w : World) (base : Nat) (t ty e : TypeId) (i : TypeInfo) (z : Value) (size bytes : Nat) (ht : P.underlying t = some (.slice e)) (hi : P.info? e = some i) (hz : i.zero = some z)
    (hsize : i.size = size) (hby : i.bytes = bytes) (hzs : z.cells.size = size) (hsz : 0 < size) (v : Value) (n : Nat) (xs : List Value) (hown : w.ownsRow base e size v n xs)
    (sp : Option Addr) (m c : Nat) (news : List Value) (hr : Src w size sp m news) (h1 : ∀ u ∈ news, u.oneCell' = true)
    (h63 : n + m ≤ maxLen) (hbytes : (n + m) * bytes ≤ 140737488355328) (hbase : base ≤ w.heap.size) :
    ∃ v' w', (Builtin.append_ #[t, t] ty #[v, .slice sp m c]).run P w = .ok v' w' ∧ w'.ownsRow base e size v' (n + m) (xs ++ news) ∧ w.grownBy w' v.ownBlock ∧ (v'.ownBlock = v.ownBlock ∨ v'.ownBlock = some w.heap.size) := by
  have key : ∀ ad : Addr, (∀ j u, news[j]? = some u → w.cell? (ad.add j) = some u) →
      ∃ v' w', (Builtin.append_ #[t, t] ty #[v, .slice (some ad) m c]).run P w = .ok v' w' ∧ w'.ownsRow base e size v' (n + m) (xs ++ news) ∧ w.grownBy w' v.ownBlock ∧ (v'.ownBlock = v.ownBlock ∨ v'.ownBlock = some w.heap.size) := fun ad hc => by
    obtain ⟨v', w', h2, h3, h4, _, h6⟩ := run_append_own_at (P := P) w base t ty e i z size bytes ht hi hz hsize hby hzs hsz v n xs hown ad m c news hr.1 hc h1 h63 hbytes hbase
    exact ⟨v', w', h2, h3, h4, h6⟩
  by_cases h0 : 0 < m
  · obtain ⟨g, o, rfl, hc⟩ := hr.2 h0
    exact key _ fun j u hu => by rw [addr0]; exact hc j u hu
  · obtain rfl : m = 0 := by omega
    obtain rfl : news = [] := List.eq_nil_of_length_eq_zero (by simpa using hr.1)
    cases sp with
    | some ad => exact key ad fun j u hu => by simp at hu
    | none =>
      refine ⟨v, w, ?_, by simpa using hown, World.grownBy.refl w _, .inl rfl⟩
      rcases hown.2 with ⟨rfl, rfl⟩ | ⟨g, cap, cur, rfl, _, _, hnc, _⟩
      · simp [Builtin.append_, run_underlying ht, sizeOf, typeInfo, hi, Builtin.lenOf, Builtin.firstCells]
      · simp [Builtin.append_, run_underlying ht, sizeOf, typeInfo, hi, Builtin.lenOf, Builtin.firstCells, hnc, storeCells]

theorem wp_append_src (w : World) {o : Oper} {a : Act} {K : Act → World → Prop} {Q : Exit → Act → World → Prop} (s x : Operand) (t : TypeId)
    (ho : o.op = .call { callee := .builtin .append, args := #[s, x], argTypes := #[t, t] })
    (base : Nat) (e : TypeId) (i : TypeInfo) (z : Value) (size bytes : Nat) (ht : P.underlying t = some (.slice e)) (hi : P.info? e = some i) (hz : i.zero = some z)
    (hsize : i.size = size) (hby : i.bytes = bytes) (hzs : z.cells.size = size) (hsz : 0 < size)
    (v : Value) (n : Nat) (xs : List Value) (hs : a.eval s = v) (hown : w.ownsRow base e size v n xs)
    (sp : Option Addr) (m c : Nat) (news : List Value) (hx : a.eval x = .slice sp m c) (hr : Src w size sp m news) (h1 : ∀ u ∈ news, u.oneCell' = true)
    (h63 : n + m ≤ maxLen) (hbytes : (n + m) * bytes ≤ 140737488355328) (hbase : base ≤ w.heap.size)
    (h : ∀ v' w', w'.ownsRow base e size v' (n + m) (xs ++ news) → w.grownBy w' v.ownBlock → (v'.ownBlock = v.ownBlock ∨ v'.ownBlock = some w.heap.size) → K (a.put o.dst v') w') : o.wp P a w K Q := by
  obtain ⟨v', w', hrun, h2, h3, h4⟩ := run_append_src (P := P) w base t o.type e i z size bytes ht hi hz hsize hby hzs hsz v n xs hown sp m c news hr h1 h63 hbytes hbase
  unfold Oper.wp execOp
  simp only [ho, resolve, invoke, builtin, Sem.run_bind, Sem.run_pure, Result.andThen_ok, List.map_toArray, List.map_cons, List.map_nil, hs, hx, hrun]
  exact h v' w' h2 h3 h4

theorem wpList_append_src (w : World) {ops : Array Oper} {rest : List Oper} {o : Oper} {a : Act} {Q : Exit → Act → World → Prop} (hgd : o.guard = none) (s x : Operand) (t : TypeId)
    (ho : o.op = .call { callee := .builtin .append, args := #[s, x], argTypes := #[t, t] })
    (base : Nat) (e : TypeId) (i : TypeInfo) (z : Value) (size bytes : Nat) (ht : P.underlying t = some (.slice e)) (hi : P.info? e = some i) (hz : i.zero = some z)
    (hsize : i.size = size) (hby : i.bytes = bytes) (hzs : z.cells.size = size) (hsz : 0 < size)
    (v : Value) (n : Nat) (xs : List Value) (hs : a.eval s = v) (hown : w.ownsRow base e size v n xs)
    (sp : Option Addr) (m c : Nat) (news : List Value) (hx : a.eval x = .slice sp m c) (hr : Src w size sp m news) (h1 : ∀ u ∈ news, u.oneCell' = true)
    (h63 : n + m ≤ maxLen) (hbytes : (n + m) * bytes ≤ 140737488355328) (hbase : base ≤ w.heap.size)
    (h : ∀ v' w', w'.ownsRow base e size v' (n + m) (xs ++ news) → w.grownBy w' v.ownBlock → (v'.ownBlock = v.ownBlock ∨ v'.ownBlock = some w.heap.size) → wpList P ops Q rest (a.put o.dst v') w') : wpList P ops Q (o :: rest) a w :=
  wpList_plain hgd fun _ hK => wp_append_src w s x t ho base e i z size bytes ht hi hz hsize hby hzs hsz v n xs hs hown sp m c news hx hr h1 h63 hbytes hbase fun v' w' h2 h3 h4 => hK _ _ (h v' w' h2 h3 h4)
end

/-- max of two integers, its value given. -/
theorem wpList_max {P : Program} {w : World} {ops : Array Oper} {rest : List Oper} {o : Oper} {a : Act} {Q : Exit → Act → World → Prop} (hgd : o.guard = none) (x y : Operand) (ts : Array TypeId)
    (ho : o.op = .call { callee := .builtin .max, args := #[x, y], argTypes := ts }) (k : IntKind) (p q r : Int) (hx : a.eval x = .int k p) (hy : a.eval y = .int k q) (hr : r = max p q)
    (h : wpList P ops Q rest (a.put o.dst (.int k r)) w) : wpList P ops Q (o :: rest) a w := by
  refine wpList_plain hgd fun K hK => ?_
  have hrun := run_max_int2 (P := P) (w := w) ts o.type k k p q
  have e : (if q > p then q else p) = r := by rw [hr]; split <;> omega
  rw [e] at hrun
  unfold Oper.wp
  simp [execOp, ho, resolve, invoke, builtin, hx, hy, hrun, Result.andThen]
  exact hK _ _ h

end Go.Proofs.Ytlkamfmepjddkaa
