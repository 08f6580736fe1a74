/- Walks: disk.Disk's Crash. -/
import Derived.Test.YteekoocbdapciaaW4
namespace Go.Proofs.Yteekoocbdapciaa
open Go.RowKit Go.Lib

/-- A slice of integers that is only read. -/
def Ints (w : World) (v : Value) (q : List Int) : Prop :=
  ∃ sp cap, v = .slice sp q.length cap ∧ (0 < q.length → ∃ b off, sp = some ⟨b, off, none⟩ ∧ ∀ j, j < q.length → w.cell? ⟨b, off + j, none⟩ = some (.int .i64 (q.getD j 0)))

theorem Ints.nil (w : World) : Ints w (.slice none 0 0) [] := ⟨none, 0, rfl, fun h => by simp at h⟩

theorem Ints.keep {w w' : World} {v : Value} {q : List Int} (h : Ints w v q) (hk : Kp (fun _ => False) w w') : Ints w' v q := by
  obtain ⟨sp, cap, rfl, hc⟩ := h
  refine ⟨sp, cap, rfl, fun h0 => ?_⟩
  obtain ⟨b, off, rfl, hb⟩ := hc h0
  exact ⟨b, off, rfl, fun j hj => (World.cell?_of_block (hk.block b (World.block_lt_of_cell? w _ (hb j hj)) (fun h => h))).trans (hb j hj)⟩

def oddB (q : List Int) (k : Nat) : Bool := 0 < q.length && q.getD (k % q.length) 0 % 2 == 1

/-- The contents after a crash: the pieces that survive are written, one behind the other. -/
def crashF (q : List Int) : Nat → List (Nat × ByteArray) → List UInt8 → List UInt8
  | _, [], c => c
  | k, p :: l, c => crashF q (k + 1) l (if oddB q k then putL c p.1 p.2.data.toList else c)

def DS.crash (s : DS) (q : List Int) : DS := ⟨crashF q 0 s.later s.synced, crashF q 0 s.later s.synced, [], 0, 0, 0⟩

theorem and_one (n : Int) : bits .and .i64 n 1 = n % 2 := by
  have h1 : (BitVec.ofInt 64 1).toNat = 2 ^ 1 - 1 := by decide
  have key : (BitVec.ofInt 64 n &&& BitVec.ofInt 64 1).toNat = (n % ((2 ^ 64 : Nat) : Int)).toNat % 2 ^ 1 := by
    rw [BitVec.toNat_and, BitVec.toNat_ofInt, h1, Nat.and_two_pow_sub_one_eq_mod]
  show IntKind.i64.wrap ((BitVec.ofInt 64 n &&& BitVec.ofInt 64 1).toNat : Nat) = n % 2
  rw [key, IntKind.wrap_i64]
  omega

theorem rebase {w : World} {B B' : Nat} {e : TypeId} {sz : Nat} {v : Value} {n : Nat} {xs : List Value} (h : w.ownsRow B e sz v n xs) (hb : ∀ k, v.ownBlock = some k → B' ≤ k) : w.ownsRow B' e sz v n xs := by
  refine ⟨h.1, ?_⟩
  rcases h.2 with hh | ⟨g, cp, cur, rfl, _, r⟩
  · exact .inl hh
  · exact .inr ⟨g, cp, cur, rfl, hb g rfl, r⟩

theorem partCells_at : ∀ (L : List (Nat × ByteArray)) (k : Nat) (hk : k < L.length), (partCells L)[k * 2]? = some (.int .i64 (L[k].1 : Nat)) ∧ (partCells L)[k * 2 + 1]? = some (.string L[k].2) := by
  intro L
  induction L with
  | nil => intro k hk; simp at hk
  | cons p l ih =>
    intro k hk
    cases k with
    | zero => exact ⟨rfl, rfl⟩
    | succ k =>
      have := ih k (by simpa using hk)
      have e1 : partCells (p :: l) = [.int .i64 (p.1 : Nat), .string p.2] ++ partCells l := rfl
      rw [e1]
      simp only [List.getElem_cons_succ]
      rw [List.getElem?_append_right (by simp; omega), List.getElem?_append_right (by simp; omega)]
      have a1 : (k + 1) * 2 - [Value.int .i64 (p.1 : Nat), .string p.2].length = k * 2 := by simp; omega
      have a2 : (k + 1) * 2 + 1 - [Value.int .i64 (p.1 : Nat), .string p.2].length = k * 2 + 1 := by simp; omega
      rw [a1, a2]
      exact this

theorem part_cell {w : World} {B : Nat} {vl : Value} {L : List (Nat × ByteArray)} (h : w.ownsRow B 68 2 vl L.length (partCells L)) (k : Nat) (hk : k < L.length) :
    ∃ g cp, vl = .slice (some ⟨g, 0, none⟩) L.length cp ∧ L.length ≤ cp ∧ w.cell? ⟨g, k * 2, none⟩ = some (.int .i64 (L[k].1 : Nat)) ∧ w.cell? ⟨g, k * 2 + 1, none⟩ = some (.string L[k].2) := by
  have hc := partCells_at L k hk
  rcases h.2 with ⟨_, h0⟩ | ⟨g, cp, cur, rfl, hb, hg, hcp, r⟩
  · omega
  · have ho : w.ownsRow B 68 2 (.slice (some ⟨g, 0, none⟩) L.length cp) L.length (partCells L) := ⟨h.1, .inr ⟨g, cp, cur, rfl, hb, hg, hcp, r⟩⟩
    have h2 := ho.cells rfl
    have e : ∀ j, (⟨g, 0, none⟩ : Addr).add j = ⟨g, j, none⟩ := fun j => by unfold Addr.add; split <;> simp_all
    exact ⟨g, cp, rfl, hcp, by have := h2 _ _ hc.1; rwa [e] at this, by have := h2 _ _ hc.2; rwa [e] at this⟩

def CRel (w : World) (n : Nat) (q : List Int) (L : List (Nat × ByteArray)) (goal : List UInt8) (v i : Value) (wr : World) : Prop :=
  ∃ k c, i = .int .i64 (k : Nat) ∧ k ≤ n ∧ Bts wr w.heap.size v c ∧ crashF q k (L.drop k) c = goal ∧ c.length ≤ 16777216 ∧ Kp (fun _ => False) w wr

theorem crel_skip {w wr : World} {n : Nat} {q : List Int} {L : List (Nat × ByteArray)} {goal : List UInt8} {v : Value} {k : Nat} {c : List UInt8} (o : Obj) (hk : k < n) (hb : Bts wr w.heap.size v c) (hg : crashF q (k + 1) (L.drop (k + 1)) c = goal) (hc : c.length ≤ 16777216)
    (hkp : Kp (fun _ => False) w wr) : CRel w n q L goal v (.int .i64 ((k : Int) + 1)) (wr.alloc o) :=
  ⟨k + 1, c, by simp, hk, (Kp.alloc (fun _ => False) wr o).own hb (fun _ _ h => h), hg, hc, hkp.trans (Kp.alloc (fun _ => False) wr o) fun _ h => h.elim⟩

theorem crel_put {w wr w3 : World} {n : Nat} {q : List Int} {L : List (Nat × ByteArray)} {goal : List UInt8} {v v3 : Value} {k po : Nat} {pt : ByteArray} {c : List UInt8} {o : Obj} (hk : k < n) (hb : Bts wr w.heap.size v c) (hc : c.length ≤ 16777216) (hp : po + pt.size ≤ 16777216)
    (hkp : Kp (fun _ => False) w wr) (hb3 : Bts w3 w.heap.size v3 (putL c po pt.data.toList)) (hg3 : (wr.alloc o).grownBy w3 v.ownBlock) (hg : crashF q (k + 1) (L.drop (k + 1)) (putL c po pt.data.toList) = goal) : CRel w n q L goal v3 (.int .i64 ((k : Int) + 1)) w3 := by
  refine ⟨k + 1, _, by simp, hk, hb3, hg, ?_, ?_⟩
  · rw [putL_length, ← size_eq]; omega
  · refine (hkp.trans (Kp.alloc (fun _ => False) wr o) fun _ h => h.elim).trans (Kp.grown (F := fun k => v.ownBlock = some k) hg3 fun _ h => h) fun k hk => .inr (ownsRow_block hb hk).1

def CrashPost (w : World) (s : DS) (q : List Int) (e : Ending) (w' : World) : Prop :=
  ∃ g vn vs, e = .returned (.pointer (some ⟨g, 0, none⟩)) ∧ DiskP w' w.heap.size g vn vs (.slice none 0 0) (s.crash q) ∧ Kp (fun _ => False) w w'

set_option maxHeartbeats 800000 in
theorem crash_any {w : World} {B b : Nat} {vn vs vl : Value} {s : DS} (h : DiskP w B b vn vs vl s) (v : Value) (q : List Int) (hq : Ints w v q) (hl : s.later.length ≤ 1000000000) (hql : q.length ≤ 9223372036854775807) :
    Calls Try.prog 23 #[.pointer (some ⟨b, 0, none⟩), v] w (CrashPost w s q) := by
  have hB1 : B ≤ w.heap.size := by have := h.hB; have := h.lt; omega
  obtain ⟨c0, c1, c2, c3, c4, c5, cf⟩ := h.cells
  obtain ⟨vp, vc, rfl⟩ : ∃ vp vc, vl = .slice vp s.later.length vc := by
    rcases h.lat.2 with ⟨rfl, h0⟩ | ⟨g, c, _, rfl, _⟩
    · exact ⟨none, 0, by rw [h0]⟩
    · exact ⟨_, _, rfl⟩
  obtain ⟨ss, sc, rfl, _⟩ := h.syn.view
  obtain ⟨qp, qc, rfl, hqc⟩ := hq
  have Hqc := Lib.hid hqc
  clear hqc
  have H := Lib.hid h
  have hlt := h.lt
  go_enter Try.func23, Try.ntmps23
  go_wp2_with fail
  refine (own_any B w _ s.synced h.syn hB1 h.synlen).mono ?_
  rintro e w1 ⟨v1, rfl, hb1, hg1, hn1⟩
  have hk1 := Kp.grown (F := fun _ => False) hg1 (fun _ h => by cases h)
  have h1 := h.keep hk1 (fun _ _ h => h)
  obtain ⟨d0, d1, d2, d3, d4, d5, df⟩ := h1.cells
  clear c0 c1 c2 c3 c4 c5 cf h d0 d1 d3 d4 d5 df
  have HB1 := Lib.hid hb1
  have HK1 := Lib.hid hk1
  have H1 := Lib.hid h1
  have HN1 := Lib.hid hn1
  clear hb1 hg1 hk1 h1 hn1
  go_wp2_with fail
  go_loopw [5, 21] (fun v i wr => CRel w s.later.length q s.later (crashF q 0 s.later s.synced) v i wr) (fun _ i _ => s.later.length - (intOf i).toNat)
  case atStart =>
    refine ⟨0, s.synced, rfl, Nat.zero_le _, ?_, rfl, H1.out.synlen, HK1.out⟩
    exact rebase HB1.out fun k hk => by
      have e := HN1.out.symm.trans hk
      simp at e
      omega
  case round =>
    obtain ⟨k, c, rfl, hk, hb, hgoal, hc, hkp⟩ := hrel
    by_cases hlt2 : k < s.later.length
    · have hp := part_cell (hkp.own H.out.lat fun _ _ h => h) k hlt2
      obtain ⟨gl, lc, hle, hlc, p0, p1⟩ := hp
      simp only [Value.slice.injEq] at hle
      obtain ⟨rfl, -, rfl⟩ := hle
      obtain ⟨po, hpo⟩ : ∃ po, po = s.later[k].1 := ⟨_, rfl⟩
      obtain ⟨pt, hpt⟩ : ∃ pt, pt = s.later[k].2 := ⟨_, rfl⟩
      rw [← hpo] at p0
      rw [← hpt] at p1
      have hpz : po + pt.size ≤ 16777216 := by rw [hpo, hpt]; exact H.out.parts _ (List.getElem_mem _)
      have hdr : s.later.drop k = (po, pt) :: s.later.drop (k + 1) := by
        rw [List.drop_eq_getElem_cons hlt2, hpo, hpt]
      rw [hdr, crashF] at hgoal
      have hks : w.heap.size ≤ wr.heap.size := hkp.size
      have HB := Lib.hid hb
      have HG := Lib.hid hgoal
      have HK := Lib.hid hkp
      clear hb hgoal hkp hpo hpt hdr
      obtain ⟨sp, cp, rfl, _⟩ := HB.out.view
      by_cases hq0 : q.length = 0
      · have hqn : (q.length : Int) = 0 := by omega
        have hodd : oddB q k = false := by simp [oddB, hq0]
        go_wp2_with fail
        go_roundw
        case rel => exact crel_skip _ hlt2 HB.out (by have := HG.out; rw [hodd] at this; simpa using this) hc HK.out
        case measure => simp [intOf]; omega
      · obtain ⟨qb, qo, hqp, hqcell⟩ := Hqc.out (by omega)
        subst hqp
        have hqk : k % q.length < q.length := Nat.mod_lt _ (by omega)
        have hqe := (World.cell?_of_block (HK.out.block qb (World.block_lt_of_cell? w _ (hqcell _ hqk)) (fun h => h))).trans (hqcell _ hqk)
        obtain ⟨x, hx⟩ : ∃ x, x = q.getD (k % q.length) 0 := ⟨_, rfl⟩
        rw [← hx] at hqe
        have hqf : ∀ o, (wr.alloc o).cell? ⟨qb, qo + k % q.length, none⟩ = some (.int .i64 x) := fun o => (World.grownBy_alloc wr o none).cell hqe (by simp)
        have hand := and_one x
        have HX := Lib.hid hx
        clear hqcell hx
        have hq1 : 0 < q.length := by omega
        by_cases hodd : (x % 2 == 1) = true
        · go_wp2_with fail
          refine (put_any w.heap.size _ _ c po pt ((Kp.alloc (fun _ => False) wr _).own HB.out fun _ _ h => h) (by simp; omega) hc hpz).mono ?_
          rintro e w3 ⟨v3, rfl, hb3, hg3, hn3⟩
          obtain ⟨sp3, cp3, rfl, _⟩ := hb3.view
          have HB3 := Lib.hid hb3
          have HG3 := Lib.hid hg3
          clear hb3 hg3 hn3
          go_wp2_with fail
          go_roundw
          case rel =>
            exact crel_put hlt2 HB.out hc hpz HK.out HB3.out HG3.out (by have := HG.out; rw [oddB, ← HX.out, hodd] at this; simpa [hq1] using this)
          case measure => simp [intOf]; omega
        · have hodd2 : (x % 2 == 1) = false := by simpa using hodd
          clear hodd
          go_wp2_with fail
          go_roundw
          case rel => exact crel_skip _ hlt2 HB.out (by have := HG.out; rw [oddB, ← HX.out, hodd2] at this; simpa using this) hc HK.out
          case measure => simp [intOf]; omega
    · have hcr : Hid (crashF q 0 s.later s.synced = c) := by
        rw [List.drop_of_length_le (by omega)] at hgoal
        exact hgoal.symm
      have HB := Lib.hid hb
      have HG := Lib.hid hgoal
      have HK := Lib.hid hkp
      clear hb hgoal hkp
      obtain ⟨sp, cp, rfl, _⟩ := HB.out.view
      go_wp2_with fail
      have hks : w.heap.size ≤ wr.heap.size := HK.out.size
      have hbk := fun k (e : Value.ownBlock (.slice sp c.length cp) = some k) => ownsRow_block HB.out e
      refine (own_any w.heap.size wr _ c HB.out hks hc).mono ?_
      rintro e w2 ⟨v2, rfl, hb2, hg2, hn2⟩
      obtain ⟨sp2, cp2, rfl, _⟩ := hb2.view
      have hk2 := Kp.grown (F := fun _ => False) hg2 (fun _ h => by cases h)
      have HB2 := Lib.hid hb2
      have HK2 := Lib.hid hk2
      have HN2 := Lib.hid hn2
      clear hb2 hg2 hk2 hn2
      go_wp2_with fail
      go_ret
      refine ⟨w2.heap.size, _, _, rfl, ⟨?_, heap_alloc_new w2 _, ?_, ?_, ⟨rfl, .inl ⟨rfl, rfl⟩⟩, ?_, ?_, ?_, fun p hp => by cases hp⟩, ?_⟩
      · have := HK2.out.size; omega
      · show Bts _ _ _ (crashF q 0 s.later s.synced)
        rw [hcr.out]
        exact (Kp.alloc (fun _ => False) w2 _).own (HK2.out.own HB.out fun _ _ h => h) fun _ _ h => h
      · show Bts _ _ _ (crashF q 0 s.later s.synced)
        rw [hcr.out]
        exact (Kp.alloc (fun _ => False) w2 _).own HB2.out fun _ _ h => h
      · intro j hj e
        have h3 := (hbk j hj).2.1
        have e2 := HN2.out.symm.trans e
        simp at e2
        omega
      · show (crashF q 0 s.later s.synced).length ≤ _
        rw [hcr.out]; exact hc
      · show (crashF q 0 s.later s.synced).length ≤ _
        rw [hcr.out]; exact hc
      · exact (HK.out.trans HK2.out fun _ h => h.elim).trans (Kp.alloc (fun _ => False) w2 _) fun _ h => h.elim


end Go.Proofs.Yteekoocbdapciaa
