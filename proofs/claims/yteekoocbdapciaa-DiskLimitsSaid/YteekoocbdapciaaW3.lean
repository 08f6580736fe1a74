/- Walks: disk.Disk's Write. -/
import Derived.Test.YteekoocbdapciaaW2
namespace Go.Proofs.Yteekoocbdapciaa
open Go.RowKit Go.Lib

/-- The pieces of a write within sectors, from an offset on; k: fuel, at least the text's length. -/
def partsF : Nat → Nat → ByteArray → List (Nat × ByteArray)
  | 0, _, _ => []
  | k + 1, off, s => if s.size = 0 then [] else (off, s.extract 0 (min (64 - off % 64) s.size)) :: partsF k (off + min (64 - off % 64) s.size) (s.extract (min (64 - off % 64) s.size) s.size)

theorem partsF_nil (k off : Nat) (s : ByteArray) (h : s.size = 0) : partsF k off s = [] := by
  cases k with
  | zero => rfl
  | succ k => rw [partsF, if_pos h]

def DS.write (s : DS) (off : Nat) (t : ByteArray) : DS := { s.tick with now := putL s.now off t.data.toList, later := s.later ++ partsF t.size off t }

set_option maxHeartbeats 400000 in
theorem write_nil (w : World) (off : Int) (s : ByteArray) : Calls Try.prog 27 #[.pointer none, .int .i64 off, .string s] w fun e w' => e = .returned (.int .i64 1) ∧ w = w' := by
  go_enter Try.func27, Try.ntmps27
  go_wp2
  go_ret
  exact ⟨rfl, rfl⟩

set_option maxHeartbeats 400000 in
theorem write_neg (w : World) (b : Nat) (off : Int) (s : ByteArray) (ho : off < 0) : Calls Try.prog 27 #[.pointer (some ⟨b, 0, none⟩), .int .i64 off, .string s] w fun e w' => e = .returned (.int .i64 1) ∧ w = w' := by
  go_enter Try.func27, Try.ntmps27
  go_wp2
  go_ret
  exact ⟨rfl, rfl⟩

set_option maxHeartbeats 400000 in
theorem write_far (w : World) (b : Nat) (off : Int) (s : ByteArray) (h0 : 0 ≤ off) (hs : s.size ≤ 9223372036854775807) (ho : 16777216 < off + s.size) : Calls Try.prog 27 #[.pointer (some ⟨b, 0, none⟩), .int .i64 off, .string s] w fun e w' => e = .returned (.int .i64 1) ∧ w = w' := by
  go_enter Try.func27, Try.ntmps27
  go_wp2
  go_ret
  exact ⟨rfl, rfl⟩

set_option maxHeartbeats 400000 in
theorem write_off {w : World} {B b : Nat} {vn vs vl : Value} {st : DS} (h : DiskP w B b vn vs vl st) (hoff : st.off = true) (off : Nat) (s : ByteArray) (ho : off + s.size ≤ 16777216) :
    Calls Try.prog 27 #[.pointer (some ⟨b, 0, none⟩), .int .i64 off, .string s] w fun e w' => e = .returned (.int .i64 50) ∧ w = w' := by
  go_enter Try.func27, Try.ntmps27
  go_wp2_with (go_at_call 40; refine (call_off h hoff).mono ?_; rintro e w' ⟨rfl, rfl⟩)
  go_ret
  exact ⟨rfl, rfl⟩

theorem Try.info68 : (Try.prog.info? 68).map (fun i => (i.zero, i.size, i.bytes)) = some (some (.agg #[.int .i64 0, .string ByteArray.empty]), 2, 24) := by kernel_rfl

def strLen : Value → Nat | .string s => s.size | _ => 0

/-- The loop's relation. -/
def WRel (B b : Nat) (vn vs : Value) (st : DS) (W : World) (F : Nat → Prop) (goal : List (Nat × ByteArray)) (N : Nat) (o t : Value) (wr : World) : Prop :=
  ∃ off' s' vl' k later', o = .int .i64 (off' : Nat) ∧ t = .string s' ∧ off' + s'.size ≤ 16777216 ∧ s'.size ≤ k ∧ later' ++ partsF k off' s' = goal ∧ DiskP wr B b vn vs vl' { st with later := later' } ∧ Kp F W wr ∧
    later'.length + s'.size ≤ N ∧ ∀ k, vl'.ownBlock = some k → F k ∨ W.heap.size ≤ k

def WritePost (B b : Nat) (vn vs vl : Value) (st : DS) (w : World) (off : Nat) (s : ByteArray) (e : Ending) (w' : World) : Prop :=
  e = .returned (.int .i64 0) ∧ ∃ vn' vl', DiskP w' B b vn' vs vl' (st.write off s) ∧ Kp (foot b vn vs vl) w w' ∧ ∀ k, foot b vn' vs vl' k → foot b vn vs vl k ∨ w.heap.size ≤ k

/-- New contents are stored into the struct. -/
theorem DiskP.setNow {w w' : World} {B b : Nat} {vn vs vl vn' : Value} {s : DS} {c : List UInt8} (h : DiskP w B b vn vs vl s) (hg : Kp (fun k => vn.ownBlock = some k) w w') (hb : Bts w' B vn' c) (hn : vn'.ownBlock = vn.ownBlock ∨ vn'.ownBlock = some w.heap.size) (hc : c.length ≤ 16777216) :
    DiskP (w'.setCell ⟨b, 0, none⟩ vn') B b vn' vs vl { s with now := c } ∧ Kp (foot b vn vs vl) w (w'.setCell ⟨b, 0, none⟩ vn') ∧ ∀ k, foot b vn' vs vl k → foot b vn vs vl k ∨ w.heap.size ≤ k := by
  have a1 := other_type h.now h.obj (by decide)
  have a2 := other_type h.syn h.obj (by decide)
  have a3 := other_type h.lat h.obj (by decide)
  have ob := (hg.block b h.lt a1).trans h.obj
  have k2 := Kp.setCell (F := (· = b)) w' (a := ⟨b, 0, none⟩) vn' rfl
  have hs := hg.own h.syn fun k e e' => h.apart k e' e
  have hl := hg.own h.lat fun k e e' => other_row h.now h.lat (by decide) k e' e
  have a1' := other_type hb ob (by decide)
  refine ⟨⟨h.hB, heap_setCell_same w' b 0 _ 60 _ ob, k2.own hb fun k e e' => a1' (by rw [← e', e]), k2.own hs fun k e e' => a2 (by rw [← e', e]), k2.own hl fun k e e' => a3 (by rw [← e', e]), ?_, hc, h.synlen, h.parts⟩, ?_, ?_⟩
  · intro k hk e
    rcases hn with hn | hn
    · exact h.apart k (hn.symm.trans hk) e
    · have := (ownsRow_block h.syn e).2.1
      have e2 := hn.symm.trans hk
      simp at e2
      omega
  · exact (hg.mono fun k hk => .inl (.inr (.inl hk))).trans k2 fun k e => .inl (.inl e)
  · rintro k (hk | hk | hk | hk)
    · exact .inl (.inl hk)
    · rcases hn with hn | hn
      · exact .inl (.inr (.inl (hn.symm.trans hk)))
      · have e2 := hn.symm.trans hk
        simp at e2
        exact .inr (by omega)
    · exact .inl (.inr (.inr (.inl hk)))
    · exact .inl (.inr (.inr (.inr hk)))

/-- Behind the append to the list of pieces: the struct is as it was. -/
theorem DiskP.laterCell {w w5 : World} {B b : Nat} {vn vs vl : Value} {s : DS} {ob : Obj} (h : DiskP w B b vn vs vl s) (hg : ((w.alloc ob).drew).grownBy w5 vl.ownBlock) :
    w5.cell? ⟨b, 2, none⟩ = some vl ∧ w5.frozen? ⟨b, 2, none⟩ = false := by
  have a3 := other_type h.lat h.obj (by decide)
  have e : w5.heap[b]? = w.heap[b]? := (hg.block b (by show b < (w.heap.push ob).size; rw [Array.size_push]; have := h.lt; omega) (Ne.symm a3)).trans (Below.heap_alloc w ob b h.lt)
  have o := e.trans h.obj
  exact ⟨cell_of_row w5 b 2 _ _ _ o, frozen_of_row w5 b 2 _ _ o⟩

/-- Behind the store of the longer list. -/
theorem DiskP.setLater {w w5 : World} {B b : Nat} {vn vs vl vl' : Value} {s : DS} {ob : Obj} {off : Nat} {t : ByteArray} {g cp : Nat} (h : DiskP w B b vn vs vl s) (hg : ((w.alloc ob).drew).grownBy w5 vl.ownBlock)
    (hv : vl' = .slice (some ⟨g, 0, none⟩) (s.later.length + 1) cp) (ho : w5.ownsRow B 68 2 vl' (s.later.length + 1) (partCells s.later ++ [.int .i64 off, .string t])) (hat : vl.ownBlock = some g ∨ g = w.heap.size + 1) (ht : off + t.size ≤ 16777216) :
    DiskP (w5.setCell ⟨b, 2, none⟩ vl') B b vn vs vl' { s with later := s.later ++ [(off, t)] } ∧ Kp (fun k => k = b ∨ vl.ownBlock = some k) w (w5.setCell ⟨b, 2, none⟩ vl') ∧ ∀ k, vl'.ownBlock = some k → vl.ownBlock = some k ∨ w.heap.size ≤ k := by
  have a1 := other_type h.now h.obj (by decide)
  have a2 := other_type h.syn h.obj (by decide)
  have a3 := other_type h.lat h.obj (by decide)
  have kg : Kp (fun k => vl.ownBlock = some k) w w5 := ((Kp.alloc (fun k => vl.ownBlock = some k) w ob).trans (Kp.drew _ _) fun _ => .inl).trans (Kp.grown hg fun _ h => h) fun _ => .inl
  have ob5 := (kg.block b h.lt a3).trans h.obj
  have k2 := Kp.setCell (F := (· = b)) w5 (a := ⟨b, 2, none⟩) vl' rfl
  have hn := kg.own h.now fun k e e' => other_row h.now h.lat (by decide) k e e'
  have hs := kg.own h.syn fun k e e' => other_row h.syn h.lat (by decide) k e e'
  have a3' := other_type ho ob5 (by decide)
  refine ⟨⟨h.hB, heap_setCell_same w5 b 2 _ 60 _ ob5, k2.own hn fun k e e' => a1 (by rw [← e', e]), k2.own hs fun k e e' => a2 (by rw [← e', e]), ?_, h.apart, h.nowlen, h.synlen, ?_⟩, ?_, ?_⟩
  · have := k2.own ho fun k e e' => a3' (by rw [← e', e])
    rw [List.length_append, List.length_singleton, partCells_append]
    exact this
  · intro p hp
    rcases List.mem_append.1 hp with hp | hp
    · exact h.parts p hp
    · rw [List.mem_singleton.1 hp]; exact ht
  · exact (kg.mono fun k hk => .inl (.inr hk)).trans k2 fun k e => .inl (.inl e)
  · intro k hk
    subst hv
    simp [Value.ownBlock] at hk
    rcases hat with hat | hat
    · exact .inl (by rw [hat, hk])
    · exact .inr (by omega)

theorem Kp.drewN (F : Nat → Prop) (w : World) (n : Nat) : Kp F w (w.drewN n) := ⟨rfl, rfl, rfl, Nat.le_refl _, fun _ _ _ => rfl⟩

/-- One round. -/
theorem wrel_step {B b : Nat} {vn vs : Value} {st : DS} {W wr w6 : World} {F : Nat → Prop} {goal : List (Nat × ByteArray)} {N off' k n' nq : Nat} {s' : ByteArray} {vl vl6 : Value} {later' : List (Nat × ByteArray)}
    (h6 : DiskP w6 B b vn vs vl6 { st with later := later' ++ [(off', s'.extract 0 n')] }) (k6 : Kp (fun k => k = b ∨ vl.ownBlock = some k) wr w6) (o6 : ∀ k, vl6.ownBlock = some k → vl.ownBlock = some k ∨ wr.heap.size ≤ k)
    (hK : Kp F W wr) (hFb : F b) (hfl : ∀ k, vl.ownBlock = some k → F k ∨ W.heap.size ≤ k) (ho' : off' + s'.size ≤ 16777216) (hsk : s'.size ≤ k) (hgoal : later' ++ partsF k off' s' = goal) (hn : n' = min (64 - off' % 64) s'.size) (hpos : 0 < s'.size)
    (hN : later'.length + s'.size ≤ N) :
    WRel B b vn vs st W F goal N (.int .i64 ((off' : Int) + (n' : Int))) (.string (s'.extract n' s'.size)) (w6.drewN nq) := by
  have hn0 : 0 < n' := by omega
  have hn1 : n' ≤ s'.size := by omega
  have es : (s'.extract n' s'.size).size = s'.size - n' := by simp [ByteArray.size_extract]
  obtain ⟨k, rfl⟩ : ∃ j, k = j + 1 := ⟨k - 1, by omega⟩
  refine ⟨off' + n', s'.extract n' s'.size, vl6, k, later' ++ [(off', s'.extract 0 n')], by simp, rfl, by omega, by omega, ?_, h6.keep (F := fun _ => False) (Kp.drewN _ _ _) (fun _ _ h => h), ?_, ?_, ?_⟩
  · rw [← hgoal, partsF, if_neg (by omega), ← hn]
    simp
  · refine (hK.trans k6 fun j hj => ?_).trans (Kp.drewN (fun _ => False) _ _) fun _ h => h.elim
    rcases hj with rfl | hj
    · exact .inl hFb
    · exact hfl j hj
  · simp
    omega
  · intro j hj
    rcases o6 j hj with h | h
    · exact hfl j h
    · have := hK.size; exact .inr (by omega)

set_option maxHeartbeats 800000 in
theorem write_on {w : World} {B b : Nat} {vn vs vl : Value} {st : DS} (h : DiskP w B b vn vs vl st) (hoff : st.off = false) (off : Nat) (s : ByteArray) (ho : off + s.size ≤ 16777216) (hl : st.later.length ≤ 1000000000) :
    Calls Try.prog 27 #[.pointer (some ⟨b, 0, none⟩), .int .i64 off, .string s] w (WritePost B b vn vs vl st w off s) := by
  obtain ⟨i0, hi0, hz0, hz1, hz2⟩ := info_parts Try.info68
  go_enter Try.func27, Try.ntmps27
  go_wp2_with (go_at_call 40; refine (call_on h hoff).mono ?_; rintro e w1 ⟨rfl, h1, hk1, hs1⟩; obtain ⟨c0, c1, c2, c3, c4, c5, cf⟩ := h1.cells)
  have hlt := h1.lt
  have hB1 : B ≤ w1.heap.size := by have := h1.hB; omega
  refine (put_any B w1 vn st.now off s h1.now hB1 h1.nowlen ho).mono ?_
  rintro e w2 ⟨vn', rfl, hb, hg, hn⟩
  have hlen : (putL st.now off s.data.toList).length ≤ 16777216 := by
    rw [putL_length]
    have := h1.nowlen
    have e : st.tick.now = st.now := rfl
    rw [e] at this
    rw [← size_eq]
    omega
  obtain ⟨sp, cap, rfl, _⟩ := hb.view
  have hk2 := Kp.grown (F := fun k => vn.ownBlock = some k) hg (fun _ h => h)
  have a1 := other_type h1.now h1.obj (by decide)
  have ob := (hk2.block b hlt a1).trans h1.obj
  have d0 := cell_of_row w2 b 0 _ _ _ ob
  have df : ∀ j, w2.frozen? ⟨b, j, none⟩ = false := fun j => frozen_of_row w2 b j _ _ ob
  obtain ⟨h3, hk3, hf3⟩ := h1.setNow hk2 hb hn hlen
  have hk4 : Kp (foot b vn vs vl) w _ := (hk1.mono fun k e => .inl (.inl e)).trans hk3 fun k e => .inl e
  have H3 := Lib.hid h3
  have HK4 := Lib.hid hk4
  have HF3 : Hid (∀ k, foot b (.slice sp (putL st.now off s.data.toList).length cap) vs vl k → foot b vn vs vl k ∨ w.heap.size ≤ k) := by rw [hs1] at hf3; exact Lib.hid hf3
  have HS := Lib.hid hs1
  clear hb hg hk1 hk2 ob hn c0 c1 c2 c3 c4 c5 cf hs1 h1 h3 hk3 hk4 hf3 a1 hlt
  go_wp2_with fail
  clear d0 df
  obtain ⟨wl, hwl⟩ : ∃ wl, wl = w2.setCell ⟨b, 0, none⟩ (.slice sp (putL st.now off s.data.toList).length cap) := ⟨_, rfl⟩
  rw [← hwl] at H3 HK4 ⊢
  clear hwl
  go_loopw [1, 2] (fun o t wr => WRel B b (.slice sp (putL st.now off s.data.toList).length cap) vs { st.tick with now := putL st.now off s.data.toList } w (foot b vn vs vl) (st.later ++ partsF s.size off s) (st.later.length + s.size) o t wr) (fun _ t _ => strLen t)
  case atStart => exact ⟨off, s, vl, s.size, st.later, rfl, rfl, ho, Nat.le_refl _, rfl, H3.out, HK4.out, Nat.le_refl _, fun k hk => .inl (.inr (.inr (.inr hk)))⟩
  case round =>
    obtain ⟨off', s', vl', k, later', rfl, rfl, ho', hsk, hgoal, hD, hK, hN, hfl⟩ := hrel
    by_cases hs0 : s'.size = 0
    · rw [partsF_nil _ _ _ hs0, List.append_nil] at hgoal
      subst hgoal
      have HD := Lib.hid hD
      have HK := Lib.hid hK
      clear hD hK
      go_wp2_with fail
      go_ret
      refine ⟨rfl, _, vl', HD.out, HK.out, fun j hj => ?_⟩
      rcases hj with hj | hj | hj | hj
      · exact HF3.out j (.inl hj)
      · exact HF3.out j (.inr (.inl hj))
      · exact HF3.out j (.inr (.inr (.inl hj)))
      · exact hfl j hj
    · obtain ⟨n', hn'⟩ : ∃ n', n' = min (64 - off' % 64) s'.size := ⟨_, rfl⟩
      have hpos : 0 < s'.size := by omega
      have hn0 : 0 < n' := by omega
      have hn1 : n' ≤ s'.size := by omega
      obtain ⟨vp, vc, rfl⟩ : ∃ vp vc, vl' = .slice vp later'.length vc := by
        rcases hD.lat.2 with ⟨rfl, h⟩ | ⟨g, c, _, rfl, _⟩
        · exact ⟨none, 0, by rw [h]⟩
        · exact ⟨_, _, rfl⟩
      have q2 := hD.cells.2.2.1
      have qf := hD.cells.2.2.2.2.2.2 2
      have qlt := hD.lt
      have ql : 0 ≤ wr.heap.size := Nat.zero_le _
      have hB3 : B ≤ wr.heap.size := by have := hD.hB; omega
      have HD := Lib.hid hD
      have HK := Lib.hid hK
      have HG := Lib.hid hgoal
      have HN := Lib.hid hn'
      clear hD hK hgoal hn' hs0
      go_wp2_with (refine wpList_min rfl (.tmp 41) (.tmp 43) #[3, 3] rfl .i64 _ _ (n' : Int) rfl rfl (by have := HN.out; omega) ?_)
      go_region_law (refine step_append_lies _ (by rfl) _ _ _ (by rfl) B 68 i0 (.agg #[.int .i64 0, .string ByteArray.empty]) 2 24 Try.underlying58 hi0 hz0 hz1 hz2 rfl (by decide) (.slice vp later'.length vc) later'.length (partCells later') (by simp [Act.eval]) ((World.ownsRow.alloc HD.out.lat _).drew) ⟨wr.heap.size, 0, none⟩ 1 1 [.int .i64 off', .string (s'.extract 0 n')] (by simp [Act.eval]) (by rfl) (World.news_of_block (cs := #[.int .i64 off', .string (s'.extract 0 n')]) (t := 68) (fr := (0, 0)) (heap_alloc_new wr _)) (by simp [Value.oneCell']) (by decide) (by unfold maxLen; omega) (by omega) (by simp; omega) (wr.heap.size + 1) (by simp) ?_; intro g cp w5 hown hgrow hat hlt5; have r := HD.out.laterCell hgrow; have r1 := r.1; have r2 := r.2; clear r)
      all_goals
        have S5 := HD.out.setLater hgrow (vl' := .slice (some ⟨g, 0, none⟩) (later'.length + 1) cp) (off := off') (t := s'.extract 0 n') rfl hown hat (by simp [ByteArray.size_extract]; omega)
        have HS5 := Lib.hid S5
        clear S5 r1 r2 hown hgrow hat
        go_wp2_with fail
        go_quiet (fail)
        go_wp2_with fail
        go_roundw
        case rel => exact wrel_step HS5.out.1 HS5.out.2.1 HS5.out.2.2 HK.out (.inl rfl) hfl ho' hsk HG.out HN.out hpos hN
        case measure => simp [strLen, ByteArray.size_extract]; omega

end Go.Proofs.Yteekoocbdapciaa
