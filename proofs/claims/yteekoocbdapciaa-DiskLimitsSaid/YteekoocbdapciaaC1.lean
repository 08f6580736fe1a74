/- Small facts for the other laws: states that never fail, integers that came in. -/
import Derived.Test.YteekoocbdapciaaOpen
namespace Go.Proofs.Yteekoocbdapciaa
open Go.RowKit Go.Lib

/-- A slice of integers that came in, in the memory of the start, is there in every later world. -/
theorem Ints.below {W w' : World} {v : Value} {q : List Int} (h : Ints W v q) (hb : Below W.heap.size W w') : Ints w' v q := by
  obtain ⟨sp, cap, rfl, hc⟩ := h
  refine ⟨sp, cap, rfl, fun h0 => ?_⟩
  obtain ⟨b, off, rfl, hcell⟩ := hc h0
  exact ⟨b, off, rfl, fun j hj => (hb.cell (p := ⟨b, off + j, none⟩) (World.block_lt_of_cell? W _ (hcell j hj))).trans (hcell j hj)⟩

theorem Below.kp {w w' : World} (h : Below w.heap.size w w') : Kp (fun _ => False) w w' := ⟨h.os, h.tape, h.output, h.size, fun k hk _ => h.block k hk⟩

theorem DeskAt.keep {w w' : World} {B x : Nat} {s : DS} {r : RS} (h : DeskAt w B x s r) (hk : Kp (fun _ => False) w w') : DeskAt w' B x s r := by
  obtain ⟨bd, bm, vn, vs, vl, vp, h⟩ := h
  exact ⟨bd, bm, vn, vs, vl, vp, h.keep hk⟩

theorem DeskAt.sizeB {w : World} {B x : Nat} {s : DS} {r : RS} (h : DeskAt w B x s r) : B ≤ w.heap.size := by
  obtain ⟨bd, bm, vn, vs, vl, vp, h⟩ := h
  exact h.sizeB

theorem kp_belowB {w w' : World} {B : Nat} (h : Kp (fun _ => False) w w') (hB : B ≤ w.heap.size) : Below B w w' := h.below (fun _ h => h.elim) hB

theorem off_of {s : DS} (h : s.power = 0) : s.off = false := by simp [DS.off, h]
theorem syncC_ok {s : DS} (h : s.power = 0) : s.syncC = 0 := by simp [DS.syncC, off_of h]
theorem writeC_ok {s : DS} {off : Int} {t : ByteArray} (h : s.power = 0) (h0 : 0 ≤ off) (h1 : off + t.size ≤ 16777216) : s.writeC off t = 0 := by
  have hb : badW off t = false := by simp [badW]; omega
  simp [DS.writeC, hb, off_of h]
theorem writeS_ok {s : DS} {off : Int} {t : ByteArray} (h : s.power = 0) (h0 : 0 ≤ off) (h1 : off + t.size ≤ 16777216) : s.writeS off t = s.write off.toNat t := by
  have hb : badW off t = false := by simp [badW]; omega
  simp [DS.writeS, hb, off_of h]
theorem syncS_ok {s : DS} (h : s.power = 0) : s.syncS = s.sync := by simp [DS.syncS, off_of h]
theorem writeS_power (s : DS) (off : Int) (t : ByteArray) : (s.writeS off t).power = s.power := by
  unfold DS.writeS
  split
  · rfl
  · split <;> rfl
theorem syncS_power (s : DS) : (s.syncS).power = s.power := by
  unfold DS.syncS
  split <;> rfl

theorem putL_take (c : List UInt8) (p n : Nat) (t : List UInt8) (h : n ≤ p) (h2 : n ≤ c.length) : (putL c p t).take n = c.take n := by
  simp only [putL, splice]
  rw [List.take_append_of_le_length (by simp; omega), List.take_take, Nat.min_eq_left h, List.take_append_of_le_length h2]

theorem crash_take (q : List Int) (n : Nat) : ∀ (l : List (Nat × ByteArray)) (k : Nat) (c : List UInt8), (∀ p ∈ l, n ≤ p.1) → n ≤ c.length → (crashF q k l c).take n = c.take n := by
  intro l
  induction l with
  | nil => intros; rfl
  | cons p l ih =>
    intro k c hp hc
    have h1 := hp p (by simp)
    rw [crashF, ih _ _ (fun p' hp' => hp p' (by simp [hp']))]
    · cases oddB q k
      · rfl
      · exact putL_take _ _ _ _ h1 hc
    · cases oddB q k
      · exact hc
      · have := putL_length c p.1 p.2.data.toList
        simp only [if_true]
        omega

theorem partsF_off : ∀ (k off : Nat) (s : ByteArray), ∀ p ∈ partsF k off s, off ≤ p.1 := by
  intro k
  induction k with
  | zero => intro off s p hp; cases hp
  | succ k ih =>
    intro off s p hp
    rw [partsF] at hp
    split at hp
    · cases hp
    · rcases List.mem_cons.1 hp with rfl | hp
      · exact Nat.le_refl _
      · have := ih _ _ p hp
        omega

theorem readL_all (c : List UInt8) : readL c 0 c.length = ⟨c.toArray⟩ := by
  unfold readL
  split
  · rename_i h
    have : c.length = 0 := by omega
    rw [List.eq_nil_of_length_eq_zero this]
    rfl
  · simp

theorem readL_take (c d : List UInt8) (n : Nat) (h : c.take n = d.take n) (hd : n ≤ d.length) (hc : n ≤ c.length) : readL c 0 n = readL d 0 n := by
  unfold readL
  by_cases h0 : n = 0
  · subst h0; simp
  · rw [if_neg (by omega), if_neg (by omega)]
    simp [h]

theorem crash_len (q : List Int) : ∀ (l : List (Nat × ByteArray)) (k : Nat) (c : List UInt8), c.length ≤ (crashF q k l c).length := by
  intro l
  induction l with
  | nil => intros; exact Nat.le_refl _
  | cons p l ih =>
    intro k c
    rw [crashF]
    refine Nat.le_trans ?_ (ih _ _)
    cases oddB q k
    · exact Nat.le_refl _
    · have := putL_length c p.1 p.2.data.toList
      simp only [if_true]
      omega

theorem repS (c : UInt8) (n : Nat) (k : Int) (hk : k = n) (hn : n ≤ 1000000) (w : World) (cv : Int) (hc : cv = (c.toNat : Int)) :
    Calls Try.prog 26 #[.int .u8 cv, .int .i64 k] w fun e w' => e = .returned (.string (repB c n)) ∧ Kp (fun _ => False) w w' := by
  subst hk hc
  exact repeated_any c n hn w

end Go.Proofs.Yteekoocbdapciaa
