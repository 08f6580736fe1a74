/- Walks: the reference model's Crash. -/
import Derived.Test.YteekoocbdapciaaR3
namespace Go.Proofs.Yteekoocbdapciaa
open Go.RowKit Go.Lib

/-- The contents after a crash: the pieces that survive are written, one behind the other. -/
def rcrashF (q : List Int) : Nat → List (Nat × ByteArray) → ByteArray → ByteArray
  | _, [], c => c
  | k, p :: l, c => rcrashF q (k + 1) l (if oddB q k then putB c p.1 p.2 else c)

def RS.crash (s : RS) (q : List Int) : RS := ⟨rcrashF q 0 s.parts s.synced, rcrashF q 0 s.parts s.synced, [], 0, 0, false⟩

theorem rcrash_none (q : List Int) (hq : q.length = 0) (l : List (Nat × ByteArray)) : ∀ k c, rcrashF q k l c = c := by
  induction l with
  | nil => intros; rfl
  | cons p l ih => intro k c; rw [rcrashF, ih]; simp [oddB, hq]

theorem Kp.cell {F : Nat → Prop} {w w' : World} (h : Kp F w w') {a : Addr} {v : Value} (hc : w.cell? a = some v) (hF : ¬ F a.block) : w'.cell? a = some v :=
  (World.cell?_of_block (h.block a.block (World.block_lt_of_cell? w _ hc) hF)).trans hc

theorem tmod2 (x : Int) : (Int.tmod x 2 != 0) = (x % 2 == 1) := by
  by_cases h : x < 0
  · have e : x = -(-x) := by omega
    have h2 : Int.tmod x 2 = -((-x) % 2) := by
      rw [← Int.tmod_eq_emod_of_nonneg (by omega), Int.neg_tmod]
      omega
    rw [Bool.eq_iff_iff]
    simp only [bne_iff_ne, beq_iff_eq, h2]
    omega
  · rw [Int.tmod_eq_emod_of_nonneg (by omega), Bool.eq_iff_iff]
    simp only [bne_iff_ne, beq_iff_eq]
    omega

theorem oddB_of {q : List Int} {k : Nat} {x : Int} (hx : x = q.getD (k % q.length) 0) (hq : 0 < q.length) : oddB q k = (x.tmod 2 != 0) := by
  rw [tmod2, oddB, ← hx]
  simp [hq]

def RCRel (w : World) (n : Nat) (q : List Int) (L : List (Nat × ByteArray)) (goal : ByteArray) (v i : Value) (wr : World) : Prop :=
  ∃ k c, v = .string c ∧ i = .int .i64 (k : Nat) ∧ k ≤ n ∧ rcrashF q k (L.drop k) c = goal ∧ c.size ≤ 16777216 ∧ Kp (fun _ => False) w wr

theorem rcrel_skip {w wr : World} {n : Nat} {q : List Int} {L : List (Nat × ByteArray)} {goal : ByteArray} {k : Nat} {c : ByteArray} (hk : k < n) (hg : rcrashF q (k + 1) (L.drop (k + 1)) c = goal) (hc : c.size ≤ 16777216)
    (hkp : Kp (fun _ => False) w wr) : RCRel w n q L goal (.string c) (.int .i64 ((k : Int) + 1)) wr :=
  ⟨k + 1, c, rfl, by simp, hk, hg, hc, hkp⟩

theorem rcrel_put {w wr w4 : World} {n : Nat} {q : List Int} {L : List (Nat × ByteArray)} {goal : ByteArray} {k po : Nat} {pt c : ByteArray} (hk : k < n) (hc : c.size ≤ 16777216) (hp : po + pt.size ≤ 16777216)
    (hkp : Kp (fun _ => False) w wr) (h4 : Kp (fun _ => False) wr.drew w4) (hg : rcrashF q (k + 1) (L.drop (k + 1)) (putB c po pt) = goal) : RCRel w n q L goal (.string (putB c po pt)) (.int .i64 ((k : Int) + 1)) w4 :=
  ⟨k + 1, _, rfl, by simp, hk, hg, by rw [putB_size]; omega, (hkp.trans (Kp.drew (fun _ => False) wr) fun _ h => h.elim).trans h4 fun _ h => h.elim⟩

def RCrashPost (w : World) (s : RS) (q : List Int) (e : Ending) (w' : World) : Prop :=
  ∃ g, e = .returned (.pointer (some ⟨g, 0, none⟩)) ∧ RefP w' w.heap.size g (.slice none 0 0) (s.crash q) ∧ Kp (fun _ => False) w w'

theorem part_cell72 {w : World} {B : Nat} {vl : Value} {L : List (Nat × ByteArray)} (h : w.ownsRow B 72 2 vl L.length (partCells L)) (k : Nat) (hk : k < L.length) :
    ∃ g cp, vl = .slice (some ⟨g, 0, none⟩) L.length cp ∧ L.length ≤ cp ∧ w.cell? ⟨g, k * 2, none⟩ = some (.int .i64 (L[k].1 : Nat)) ∧ w.cell? ⟨g, k * 2 + 1, none⟩ = some (.string L[k].2) := by
  have hc := partCells_at L k hk
  rcases h.2 with ⟨_, h0⟩ | ⟨g, cp, cur, rfl, hb, hg, hcp, r⟩
  · omega
  · have ho : w.ownsRow B 72 2 (.slice (some ⟨g, 0, none⟩) L.length cp) L.length (partCells L) := ⟨h.1, .inr ⟨g, cp, cur, rfl, hb, hg, hcp, r⟩⟩
    have h2 := ho.cells rfl
    have e : ∀ j, (⟨g, 0, none⟩ : Addr).add j = ⟨g, j, none⟩ := fun j => by unfold Addr.add; split <;> simp_all
    exact ⟨g, cp, rfl, hcp, by have := h2 _ _ hc.1; rwa [e] at this, by have := h2 _ _ hc.2; rwa [e] at this⟩

set_option maxHeartbeats 800000 in
theorem rcrash_any {w : World} {B b : Nat} {vp : Value} {s : RS} (h : RefP w B b vp s) (v : Value) (q : List Int) (hq : Ints w v q) (hl : s.parts.length ≤ 1000000000) (hql : q.length ≤ 9223372036854775807) :
    Calls Try.prog 24 #[.pointer (some ⟨b, 0, none⟩), v] w (RCrashPost w s q) := by
  obtain ⟨c0, c1, c2, c3, c4, c5, cf⟩ := h.cells
  obtain ⟨vq, vc, rfl⟩ : ∃ vq vc, vp = .slice vq s.parts.length vc := by
    rcases h.lat.2 with ⟨rfl, h0⟩ | ⟨g, c, _, rfl, _⟩
    · exact ⟨none, 0, by rw [h0]⟩
    · exact ⟨_, _, rfl⟩
  obtain ⟨qp, qc, rfl, hqc⟩ := hq
  have Hqc := Lib.hid hqc
  have H := Lib.hid h
  clear hqc h c0 c3 c4 c5 cf
  go_enter Try.func24, Try.ntmps24
  go_wp2_with fail
  clear c1 c2
  go_loopw [5, 6] (fun v i wr => RCRel w s.parts.length q s.parts (rcrashF q 0 s.parts s.synced) v i wr) (fun _ i _ => s.parts.length - (intOf i).toNat)
  case atStart => exact ⟨0, s.synced, rfl, rfl, Nat.zero_le _, rfl, H.out.synlen, Kp.refl _ _⟩
  case round =>
    obtain ⟨k, c, rfl, rfl, hk, hgoal, hc, hkp⟩ := hrel
    have hr := H.out.keep hkp (fun _ _ h => h)
    have d2 := hr.cells.2.2.1
    by_cases hq0 : q.length = 0
    · have hqn : (q.length : Int) = 0 := by omega
      have hcr : Hid (rcrashF q 0 s.parts s.synced = c) := by
        rw [rcrash_none q hq0] at hgoal
        exact hgoal.symm
      have HK := Lib.hid hkp
      clear hgoal hkp hr
      by_cases hlt2 : k < s.parts.length
      all_goals
        go_wp2_with fail
        go_ret
        refine ⟨wr.heap.size, rfl, ⟨HK.out.size, ?_, ⟨rfl, .inl ⟨rfl, rfl⟩⟩, ?_, ?_, fun p hp => by cases hp⟩, HK.out.trans (Kp.alloc (fun _ => False) wr _) fun _ h => h.elim⟩
        · rw [heap_alloc_new]
          simp only [RS.crash, hcr.out]
        · simp only [RS.crash, hcr.out]; exact hc
        · simp only [RS.crash, hcr.out]; exact hc
    · have hq1 : 0 < q.length := by omega
      by_cases hlt2 : k < s.parts.length
      · have hp := part_cell72 hr.lat k hlt2
        obtain ⟨gl, lc, hle, hlc, p0, p1⟩ := hp
        simp only [Value.slice.injEq] at hle
        obtain ⟨rfl, -, rfl⟩ := hle
        obtain ⟨po, hpo⟩ : ∃ po, po = s.parts[k].1 := ⟨_, rfl⟩
        obtain ⟨pt, hpt⟩ : ∃ pt, pt = s.parts[k].2 := ⟨_, rfl⟩
        rw [← hpo] at p0
        rw [← hpt] at p1
        have hpz : po + pt.size ≤ 16777216 := by rw [hpo, hpt]; exact H.out.fit _ (List.getElem_mem _)
        have hdr : s.parts.drop k = (po, pt) :: s.parts.drop (k + 1) := by
          rw [List.drop_eq_getElem_cons hlt2, hpo, hpt]
        rw [hdr, rcrashF] at hgoal
        have hks : w.heap.size ≤ wr.heap.size := hkp.size
        obtain ⟨qb, qo, hqp, hqcell⟩ := Hqc.out (by omega)
        subst hqp
        have hqk : k % q.length < q.length := Nat.mod_lt _ (by omega)
        have hqe := (World.cell?_of_block (hkp.block qb (World.block_lt_of_cell? w _ (hqcell _ hqk)) (fun h => h))).trans (hqcell _ hqk)
        obtain ⟨x, hx⟩ : ∃ x, x = q.getD (k % q.length) 0 := ⟨_, rfl⟩
        rw [← hx] at hqe
        have HX := Lib.hid hx
        have HG := Lib.hid hgoal
        have HK := Lib.hid hkp
        clear hgoal hkp hpo hpt hdr hr hqcell hx
        by_cases hodd : (Int.tmod x 2 != 0) = true
        · have ho : Hid (oddB q k = true) := Lib.hid ((oddB_of HX.out hq1).trans hodd)
          go_wp2_with fail
          go_region_held3 (fun w' => w'.cell? ⟨b, 2, none⟩ = some (.slice (some ⟨gl, 0, none⟩) s.parts.length vc) ∧ w'.cell? ⟨gl, k * 2, none⟩ = some (.int .i64 po) ∧ w'.cell? ⟨gl, k * 2 + 1, none⟩ = some (.string pt))
            (first | go_keep | exact hS4)
            (first | (go_at_call 39; refine (rput_any _ c po pt hc hpz).mono ?_; rintro e w4 ⟨rfl, hk4⟩; have hS4 := And.intro (hk4.cell (a := ⟨b, 2, none⟩) d2 (fun h => h)) (And.intro (hk4.cell (a := ⟨gl, k * 2, none⟩) p0 (fun h => h)) (hk4.cell (a := ⟨gl, k * 2 + 1, none⟩) p1 (fun h => h)))))
          have HK4 := Lib.hid hk4
          clear hk4 hS4
          go_wp2_with fail
          go_roundw
          case rel => exact rcrel_put hlt2 hc hpz HK.out HK4.out (by have := HG.out; rw [ho.out] at this; simpa using this)
          case measure => simp [intOf]; omega
        · have hodd2 : (Int.tmod x 2 != 0) = false := by simpa using hodd
          have ho : Hid (oddB q k = false) := Lib.hid ((oddB_of HX.out hq1).trans hodd2)
          clear hodd
          go_wp2_with fail
          go_roundw
          case rel => exact rcrel_skip hlt2 (by have := HG.out; rw [ho.out] at this; simpa using this) hc HK.out
          case measure => simp [intOf]; omega
      · have hcr : Hid (rcrashF q 0 s.parts s.synced = c) := by
          rw [List.drop_of_length_le (by omega)] at hgoal
          exact hgoal.symm
        have HK := Lib.hid hkp
        clear hgoal hkp hr
        go_wp2_with fail
        go_ret
        refine ⟨wr.heap.size, rfl, ⟨HK.out.size, ?_, ⟨rfl, .inl ⟨rfl, rfl⟩⟩, ?_, ?_, fun p hp => by cases hp⟩, HK.out.trans (Kp.alloc (fun _ => False) wr _) fun _ h => h.elim⟩
        · rw [heap_alloc_new]
          simp only [RS.crash, hcr.out]
        · simp only [RS.crash, hcr.out]; exact hc
        · simp only [RS.crash, hcr.out]; exact hc

end Go.Proofs.Yteekoocbdapciaa
