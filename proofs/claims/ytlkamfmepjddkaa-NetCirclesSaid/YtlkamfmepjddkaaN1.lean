/- What a net does, in plain Lean: packets, behaviours, replies, and the state of a net. -/
import Derived.Test.YtlkamfmepjddkaaK3
set_option linter.unusedSimpArgs false
set_option linter.unusedVariables false
namespace Go.Proofs.Ytlkamfmepjddkaa
open Go.RowKit Go.Lib

structure Pk where
  h : List UInt8
  b : ByteArray
structure Bh where
  k : Int
  d : Int
  n : Int
structure Rp where
  num : Int
  mir : Int
  at' : Int
  b : ByteArray

def pkCells (p : Pk) : List Value := byteCells p.h ++ [.string p.b]
def bhCells (x : Bh) : List Value := [.int .i64 x.k, .int .i64 x.d, .int .i64 x.n]
def rpCells (r : Rp) : List Value := [.int .i64 r.num, .int .i64 r.mir, .int .i64 r.at', .string r.b]
def pks (l : List Pk) : List Value := l.flatMap pkCells
def bhs (l : List Bh) : List Value := l.flatMap bhCells
def rps (l : List Rp) : List Value := l.flatMap rpCells

theorem flat_length {α : Type} (f : α → List Value) (n : Nat) : ∀ l : List α, (∀ x ∈ l, (f x).length = n) → (l.flatMap f).length = l.length * n
  | [], _ => by simp
  | x :: l, h => by
    rw [List.flatMap_cons, List.length_append, h x (by simp), flat_length f n l (fun y hy => h y (by simp [hy])), List.length_cons, Nat.add_mul]
    omega
theorem flat_drop {α : Type} (f : α → List Value) (n : Nat) : ∀ (l : List α) (i : Nat) (x : α), (∀ x ∈ l, (f x).length = n) → l[i]? = some x → ∃ rest, (l.flatMap f).drop (i * n) = f x ++ rest
  | [], _, _, _, h => by simp at h
  | y :: l, 0, x, _, h => by
    simp at h
    subst h
    exact ⟨l.flatMap f, by simp⟩
  | y :: l, i + 1, x, hl, h => by
    obtain ⟨rest, hr⟩ := flat_drop f n l i x (fun z hz => hl z (by simp [hz])) (by simpa using h)
    refine ⟨rest, ?_⟩
    rw [List.flatMap_cons, show (i + 1) * n = (f y).length + i * n by rw [hl y (by simp), Nat.add_mul]; omega, ← List.drop_drop, List.drop_left, hr]
/-- The cells of element i. -/
theorem flat_at {α : Type} (f : α → List Value) (n : Nat) (l : List α) (i : Nat) (x : α) (hl : ∀ x ∈ l, (f x).length = n) (h : l[i]? = some x) (j : Nat) (hj : j < n) : (l.flatMap f)[i * n + j]? = (f x)[j]? := by
  obtain ⟨rest, hr⟩ := flat_drop f n l i x hl h
  rw [← List.getElem?_drop, hr, List.getElem?_append_left (by rw [hl x (List.mem_of_getElem? h)]; exact hj)]

theorem bhCells_len (x : Bh) : (bhCells x).length = 3 := rfl
theorem rpCells_len (x : Rp) : (rpCells x).length = 4 := rfl
theorem pkCells_len (x : Pk) (h : x.h.length = 32) : (pkCells x).length = 33 := by simp [pkCells, byteCells_length, h]
theorem bhs_len (l : List Bh) : (bhs l).length = l.length * 3 := flat_length _ 3 l fun _ _ => rfl
theorem rps_len (l : List Rp) : (rps l).length = l.length * 4 := flat_length _ 4 l fun _ _ => rfl
theorem pks_len (l : List Pk) (h : ∀ p ∈ l, p.h.length = 32) : (pks l).length = l.length * 33 := flat_length _ 33 l fun p hp => pkCells_len p (h p hp)

/-- Element i of a row that is known in one range. -/
theorem rangeAt_flat {α : Type} {w : World} {g o : Nat} (f : α → List Value) (n : Nat) (l : List α) (hr : w.rangeAt g o (l.flatMap f)) (i : Nat) (x : α) (hl : ∀ x ∈ l, (f x).length = n) (h : l[i]? = some x) : w.rangeAt g (o + i * n) (f x) := by
  intro j v hv
  have hj : j < n := by rw [← hl x (List.mem_of_getElem? h)]; exact (List.getElem?_eq_some_iff.1 hv).1
  rw [Nat.add_assoc]
  exact hr (i * n + j) v (by rw [flat_at f n l i x hl h j hj]; exact hv)

def emptyS : ByteArray := ⟨#[]⟩

/-- The wanted bytes. -/
def wantedS : List Pk → List UInt8 → ByteArray
  | [], _ => emptyS
  | p :: l, h => if p.h = h then p.b else wantedS l h
/-- The bytes of a packet in a circle. -/
def circleS (l : List Pk) (n : Int) : ByteArray :=
  match l[(n % (l.length : Int)).toNat]? with
  | some p => p.b
  | none => emptyS
def xorAt (l : List UInt8) (k : Nat) : List UInt8 := l.set k (l.getD k 0 ^^^ 1)
def forgedS (s : ByteArray) (n : Int) : ByteArray := ⟨(xorAt s.data.toList (n % (s.size : Int)).toNat).toArray⟩
def shortS (s : ByteArray) (n : Int) : ByteArray := s.extract 0 (min (max n 0) s.size).toNat

/-- The bytes of the replies that a behaviour causes. -/
def bytesS (packets old : List Pk) (x : Bh) (h : List UInt8) : List ByteArray :=
  if x.k = 1 then [wantedS packets h]
  else if x.k = 3 then [circleS old x.n]
  else if x.k = 4 then [shortS (wantedS packets h) x.n]
  else if x.k = 5 then [wantedS packets h, wantedS packets h]
  else if x.k = 6 then [circleS packets x.n]
  else if x.k = 7 then [forgedS (wantedS packets h) x.n]
  else []

/-- The state of a net. -/
structure NS where
  packets : List Pk
  old : List Pk
  scripts : List (List Bh)
  asked : List Nat
  n : Nat
  replies : List Rp

/-- What every state of ours meets. -/
structure NOk (s : NS) : Prop where
  hp : ∀ p ∈ s.packets, p.h.length = 32 ∧ p.b.size ≤ 100
  ho : ∀ p ∈ s.old, p.h.length = 32 ∧ p.b.size ≤ 100
  lp : s.packets.length ≤ 1000
  lo : s.old.length ≤ 1000
  la : s.asked.length = s.scripts.length
  ls : s.scripts.length ≤ 1000
  hs : ∀ l ∈ s.scripts, l.length ≤ 5864062014805 ∧ ∀ x ∈ l, x.d ≤ 1000000
  ha : ∀ k ∈ s.asked, k ≤ s.n
  hn : s.n ≤ 100000
  lr : s.replies.length ≤ 2 * s.n

def behS (l : List Bh) (k : Nat) : Bh :=
  match l[k % l.length]? with
  | some x => x
  | none => ⟨1, 1, 0⟩

/-- A request. -/
def askS (s : NS) (now mir : Int) (h : List UInt8) : NS :=
  if mir < 0 then { s with n := s.n + 1 }
  else match s.scripts[mir.toNat]? with
  | none => { s with n := s.n + 1 }
  | some l =>
    let x := behS l (s.asked.getD mir.toNat 0)
    { s with n := s.n + 1, asked := s.asked.set mir.toNat (s.asked.getD mir.toNat 0 + 1),
             replies := s.replies ++ (bytesS s.packets s.old x h).map fun b => ⟨s.n + 1, mir, now + max x.d 0, b⟩ }

def lessR (a b : Rp) : Bool := decide (a.at' < b.at') || (decide (a.at' = b.at') && decide (a.num < b.num))

/-- The number of the first reply that is least, after looking at those before i. -/
def kAfter (l : List Rp) : Nat → Nat
  | 0 => 0
  | i + 1 =>
    match l[i]?, l[kAfter l i]? with
    | some x, some m => if lessR x m then i else kAfter l i
    | _, _ => kAfter l i
def kIdx (l : List Rp) : Nat := kAfter l l.length
def zeroR : Rp := ⟨0, 0, 0, emptyS⟩

def nextS (s : NS) : NS := { s with replies := s.replies.eraseIdx (kIdx s.replies) }
def nextR (s : NS) : Rp :=
  match s.replies[kIdx s.replies]? with
  | some r => r
  | none => zeroR
def nextB (s : NS) : Bool := !s.replies.isEmpty

end Go.Proofs.Ytlkamfmepjddkaa
