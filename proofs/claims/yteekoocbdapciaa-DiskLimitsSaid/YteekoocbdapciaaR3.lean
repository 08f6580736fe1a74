/- Walks: the reference model's Write. -/
import Derived.Test.YteekoocbdapciaaR2
namespace Go.Proofs.Yteekoocbdapciaa
open Go.RowKit Go.Lib

def RS.write (s : RS) (off : Nat) (t : ByteArray) : RS := { s.tick with now := putB s.now off t, parts := s.parts ++ partsF t.size off t }

set_option maxHeartbeats 400000 in
theorem rwrite_neg (w : World) (b : Nat) (off : Int) (s : ByteArray) (ho : off < 0) : Calls Try.prog 32 #[.pointer (some ⟨b, 0, none⟩), .int .i64 off, .string s] w fun e w' => e = .returned (.int .i64 1) ∧ w = w' := by
  go_enter Try.func32, Try.ntmps32
  go_wp2
  go_ret
  exact ⟨rfl, rfl⟩

set_option maxHeartbeats 400000 in
theorem rwrite_big (w : World) (b : Nat) (off : Int) (s : ByteArray) (h0 : 0 ≤ off) (ho : 16777216 < off) : Calls Try.prog 32 #[.pointer (some ⟨b, 0, none⟩), .int .i64 off, .string s] w fun e w' => e = .returned (.int .i64 1) ∧ w = w' := by
  go_enter Try.func32, Try.ntmps32
  go_wp2
  go_ret
  exact ⟨rfl, rfl⟩

set_option maxHeartbeats 400000 in
theorem rwrite_far (w : World) (b : Nat) (off : Int) (s : ByteArray) (h0 : 0 ≤ off) (h1 : off ≤ 16777216) (hs : s.size ≤ 140737488355328) (ho : 16777216 < off + s.size) : Calls Try.prog 32 #[.pointer (some ⟨b, 0, none⟩), .int .i64 off, .string s] w fun e w' => e = .returned (.int .i64 1) ∧ w = w' := by
  go_enter Try.func32, Try.ntmps32
  go_wp2
  go_ret
  exact ⟨rfl, rfl⟩

theorem rwrite_arg (w : World) (b : Nat) (off : Int) (s : ByteArray) (hs : s.size ≤ 140737488355328) (h : off < 0 ∨ 16777216 < off + s.size) : Calls Try.prog 32 #[.pointer (some ⟨b, 0, none⟩), .int .i64 off, .string s] w fun e w' => e = .returned (.int .i64 1) ∧ w = w' := by
  by_cases h0 : off < 0
  · exact rwrite_neg w b off s h0
  · by_cases h1 : 16777216 < off
    · exact rwrite_big w b off s (by omega) h1
    · exact rwrite_far w b off s (by omega) (by omega) hs (by omega)

set_option maxHeartbeats 400000 in
theorem rwrite_off {w : World} {B b : Nat} {vp : Value} {st : RS} (h : RefP w B b vp st) (hoff : st.off = true) (off : Nat) (s : ByteArray) (ho : off + s.size ≤ 16777216) :
    Calls Try.prog 32 #[.pointer (some ⟨b, 0, none⟩), .int .i64 off, .string s] w fun e w' => e = .returned (.int .i64 50) ∧ w = w' := by
  go_enter Try.func32, Try.ntmps32
  go_wp2_with (go_at_call 41; refine (off_yes h hoff).mono ?_; rintro e w' ⟨rfl, rfl⟩)
  go_ret
  exact ⟨rfl, rfl⟩

theorem Try.info72 : (Try.prog.info? 72).map (fun i => (i.zero, i.size, i.bytes)) = some (some (.agg #[.int .i64 0, .string ByteArray.empty]), 2, 24) := by kernel_rfl

/-- The loop's relation. -/
def RWRel (B b : Nat) (st : RS) (W : World) (F : Nat → Prop) (goal : List (Nat × ByteArray)) (N off : Nat) (s : ByteArray) (t : Value) (wr : World) : Prop :=
  ∃ at' vp' k later', t = .int .i64 (at' : Nat) ∧ at' ≤ s.size ∧ s.size ≤ k + at' ∧ later' ++ partsF k (off + at') (s.extract at' s.size) = goal ∧ RefP wr B b vp' { st with parts := later' } ∧ Kp F W wr ∧
    later'.length + s.size ≤ N + at' ∧ ∀ k, vp'.ownBlock = some k → F k ∨ W.heap.size ≤ k

theorem extract_tail (s : ByteArray) (a n : Nat) (h : a + n ≤ s.size) : (s.extract a s.size).extract 0 n = s.extract a (a + n) ∧ (s.extract a s.size).extract n (s.size - a) = s.extract (a + n) s.size := by
  constructor
  · apply ba_ext
    rw [ba_extract, ba_extract, ba_extract]
    simp only [List.drop_zero, Nat.sub_zero, List.take_take]
    congr 1
    omega
  · apply ba_ext
    rw [ba_extract, ba_extract, ba_extract]
    rw [List.drop_take, List.drop_drop, List.take_take]
    congr 1
    omega

/-- Behind the append to the list of pieces: the struct is as it was. -/
theorem RefP.laterCell {w w5 : World} {B b : Nat} {vp : Value} {s : RS} {ob : Obj} (h : RefP w B b vp s) (hg : ((w.alloc ob).drew).grownBy w5 vp.ownBlock) :
    w5.cell? ⟨b, 2, none⟩ = some vp ∧ w5.frozen? ⟨b, 2, none⟩ = false := by
  have a3 := other_type h.lat h.obj (by decide)
  have e : w5.heap[b]? = w.heap[b]? := (hg.block b (by show b < (w.heap.push ob).size; rw [Array.size_push]; have := h.lt; omega) (Ne.symm a3)).trans (Below.heap_alloc w ob b h.lt)
  have o := e.trans h.obj
  exact ⟨cell_of_row w5 b 2 _ _ _ o, frozen_of_row w5 b 2 _ _ o⟩

/-- Behind the store of the longer list. -/
theorem RefP.setLater {w w5 : World} {B b : Nat} {vp vl' : Value} {s : RS} {ob : Obj} {off : Nat} {t : ByteArray} {g cp : Nat} (h : RefP w B b vp s) (hg : ((w.alloc ob).drew).grownBy w5 vp.ownBlock)
    (hv : vl' = .slice (some ⟨g, 0, none⟩) (s.parts.length + 1) cp) (ho : w5.ownsRow B 72 2 vl' (s.parts.length + 1) (partCells s.parts ++ [.int .i64 off, .string t])) (hat : vp.ownBlock = some g ∨ g = w.heap.size + 1) (ht : off + t.size ≤ 16777216) :
    RefP (w5.setCell ⟨b, 2, none⟩ vl') B b vl' { s with parts := s.parts ++ [(off, t)] } ∧ Kp (fun k => k = b ∨ vp.ownBlock = some k) w (w5.setCell ⟨b, 2, none⟩ vl') ∧ ∀ k, vl'.ownBlock = some k → vp.ownBlock = some k ∨ w.heap.size ≤ k := by
  have a3 := other_type h.lat h.obj (by decide)
  have kg : Kp (fun k => vp.ownBlock = some k) w w5 := ((Kp.alloc (fun k => vp.ownBlock = some k) w ob).trans (Kp.drew _ _) fun _ => .inl).trans (Kp.grown hg fun _ h => h) fun _ => .inl
  have ob5 := (kg.block b h.lt a3).trans h.obj
  have k2 := Kp.setCell (F := (· = b)) w5 (a := ⟨b, 2, none⟩) vl' rfl
  have a3' := other_type ho ob5 (by decide)
  refine ⟨⟨h.hB, heap_setCell_same w5 b 2 _ 64 _ ob5, ?_, h.nowlen, h.synlen, ?_⟩, ?_, ?_⟩
  · have := k2.own ho fun k e e' => a3' (by rw [← e', e])
    rw [List.length_append, List.length_singleton, partCells_append]
    exact this
  · intro p hp
    rcases List.mem_append.1 hp with hp | hp
    · exact h.fit p hp
    · rw [List.mem_singleton.1 hp]; exact ht
  · exact (kg.mono fun k hk => .inl (.inr hk)).trans k2 fun k e => .inl (.inl e)
  · intro k hk
    subst hv
    simp [Value.ownBlock] at hk
    rcases hat with hat | hat
    · exact .inl (by rw [hat, hk])
    · exact .inr (by omega)

/-- One round. -/
theorem rwrel_step {B b : Nat} {st : RS} {W wr w6 : World} {F : Nat → Prop} {goal : List (Nat × ByteArray)} {N off at' k n' nq : Nat} {s : ByteArray} {vp vp6 : Value} {later' : List (Nat × ByteArray)}
    (h6 : RefP w6 B b vp6 { st with parts := later' ++ [(off + at', s.extract at' (at' + n'))] }) (k6 : Kp (fun k => k = b ∨ vp.ownBlock = some k) wr w6) (o6 : ∀ k, vp6.ownBlock = some k → vp.ownBlock = some k ∨ wr.heap.size ≤ k)
    (hK : Kp F W wr) (hFb : F b) (hfl : ∀ k, vp.ownBlock = some k → F k ∨ W.heap.size ≤ k) (hsk : s.size ≤ k + at') (hgoal : later' ++ partsF k (off + at') (s.extract at' s.size) = goal) (hn : n' = min (64 - (off + at') % 64) (s.size - at')) (hpos : at' < s.size)
    (hN : later'.length + s.size ≤ N + at') :
    RWRel B b st W F goal N off s (.int .i64 ((at' : Int) + (n' : Int))) (w6.drewN nq) := by
  have hn0 : 0 < n' := by omega
  have hn1 : n' ≤ s.size - at' := by omega
  obtain ⟨e1, e2⟩ := extract_tail s at' n' (by omega)
  have es : (s.extract at' s.size).size = s.size - at' := by simp [ByteArray.size_extract]
  obtain ⟨k, rfl⟩ : ∃ j, k = j + 1 := ⟨k - 1, by omega⟩
  refine ⟨at' + n', vp6, k, later' ++ [(off + at', s.extract at' (at' + n'))], by simp, by omega, by omega, ?_, h6.keep (F := fun _ => False) (Kp.drewN _ _ _) (fun _ _ h => h), ?_, ?_, ?_⟩
  · rw [← hgoal, partsF, es, if_neg (by omega), ← hn, e1, e2, Nat.add_assoc]
    simp
  · refine (hK.trans k6 fun j hj => ?_).trans (Kp.drewN (fun _ => False) _ _) fun _ h => h.elim
    rcases hj with rfl | hj
    · exact .inl hFb
    · exact hfl j hj
  · simp
    omega
  · intro j hj
    rcases o6 j hj with h | h
    · exact hfl j h
    · have := hK.size; exact .inr (by omega)

def RWritePost (B b : Nat) (vp : Value) (st : RS) (w : World) (off : Nat) (s : ByteArray) (e : Ending) (w' : World) : Prop :=
  e = .returned (.int .i64 0) ∧ ∃ vp', RefP w' B b vp' (st.write off s) ∧ Kp (footR b vp) w w' ∧ ∀ k, footR b vp' k → footR b vp k ∨ w.heap.size ≤ k

set_option maxHeartbeats 800000 in
theorem rwrite_on {w : World} {B b : Nat} {vp : Value} {st : RS} (h : RefP w B b vp st) (hoff : st.off = false) (off : Nat) (s : ByteArray) (ho : off + s.size ≤ 16777216) (hl : st.parts.length ≤ 1000000000) :
    Calls Try.prog 32 #[.pointer (some ⟨b, 0, none⟩), .int .i64 off, .string s] w (RWritePost B b vp st w off s) := by
  obtain ⟨i0, hi0, hz0, hz1, hz2⟩ := info_parts Try.info72
  go_enter Try.func32, Try.ntmps32
  go_wp2_with fail
  refine (off_no h hoff).mono ?_
  rintro e w1 ⟨rfl, h1, hk1, hs1⟩
  obtain ⟨c0, c1, c2, c3, c4, c5, cf⟩ := h1.cells
  have H1 := Lib.hid h1
  have HK := Lib.hid hk1
  have HS := Lib.hid hs1
  clear h1 hk1 hs1 c1 c2 c3 c4 c5 cf
  go_wp2_with fail
  refine (rput_any w1 st.now off s H1.out.nowlen ho).mono ?_
  rintro e w2 ⟨rfl, hk2⟩
  have h2 := H1.out.keep hk2 (fun _ _ h => h)
  have d0 := h2.cells.1
  have df := h2.cells.2.2.2.2.2.2 0
  have hps : (putB st.now off s).size ≤ 16777216 := by rw [putB_size]; have := H1.out.nowlen; have e : st.tick.now = st.now := rfl; rw [e] at this; omega
  have hk3 := Kp.setCell (F := (· = b)) w2 (a := ⟨b, 0, none⟩) (.string (putB st.now off s)) rfl
  have h3 : RefP (w2.setCell ⟨b, 0, none⟩ (.string (putB st.now off s))) B b vp { st.tick with now := putB st.now off s } := by
    refine h2.nums hk3 rfl hps h2.synlen ?_
    rw [heap_setCell_same w2 b 0 _ 64 _ h2.obj]
    rfl
  have hk4 : Kp (footR b vp) w _ := ((HK.out.mono (G := footR b vp) fun k e => .inl (.inl e)).trans hk2 fun k e => e.elim).trans hk3 fun k e => .inl (.inl e)
  have H3 := Lib.hid h3
  have HK4 := Lib.hid hk4
  clear hk2 hk3 h2 h3 hk4 c0 hps
  go_wp2_with fail
  clear d0 df
  obtain ⟨wl, hwl⟩ : ∃ wl, wl = w2.setCell ⟨b, 0, none⟩ (.string (putB st.now off s)) := ⟨_, rfl⟩
  rw [← hwl] at H3 HK4 ⊢
  clear hwl
  go_loopw [8] (fun t wr => RWRel B b { st.tick with now := putB st.now off s } w (footR b vp) (st.parts ++ partsF s.size off s) (st.parts.length + s.size) off s t wr) (fun t _ => s.size - (intOf t).toNat)
  case atStart => exact ⟨0, vp, s.size, st.parts, rfl, Nat.zero_le _, Nat.le_refl _, by simp [ByteArray.extract_zero_size], H3.out, HK4.out, Nat.le_refl _, fun k hk => .inl (.inr hk)⟩
  case round =>
    obtain ⟨at', vp', k, later', rfl, hat0, hsk, hgoal, hD, hK, hN, hfl⟩ := hrel
    by_cases hs0 : at' = s.size
    · subst hs0
      rw [partsF_nil _ _ _ (by simp), List.append_nil] at hgoal
      subst hgoal
      have HD := Lib.hid hD
      have HK := Lib.hid hK
      clear hD hK
      go_wp2_with fail
      go_ret
      refine ⟨rfl, vp', HD.out, HK.out, fun j hj => ?_⟩
      rcases hj with hj | hj
      · exact .inl (.inl hj)
      · exact hfl j hj
    · obtain ⟨n', hn'⟩ : ∃ n', n' = min (64 - (off + at') % 64) (s.size - at') := ⟨_, rfl⟩
      have hpos : at' < s.size := by omega
      have hn0 : 0 < n' := by omega
      have hn1 : at' + n' ≤ s.size := by omega
      obtain ⟨vq, vc, rfl⟩ : ∃ vq vc, vp' = .slice vq later'.length vc := by
        rcases hD.lat.2 with ⟨rfl, h⟩ | ⟨g, c, _, rfl, _⟩
        · exact ⟨none, 0, by rw [h]⟩
        · exact ⟨_, _, rfl⟩
      have q2 := hD.cells.2.2.1
      have qf := hD.cells.2.2.2.2.2.2 2
      have qlt := hD.lt
      have hB3 : B ≤ wr.heap.size := by have := hD.hB; omega
      have HD := Lib.hid hD
      have HK := Lib.hid hK
      have HG := Lib.hid hgoal
      have HN := Lib.hid hn'
      clear hD hK hgoal hn' hs0
      go_wp2_with (refine wpList_min rfl (.tmp 44) (.tmp 48) #[3, 3] rfl .i64 _ _ (n' : Int) rfl rfl (by have := HN.out; omega) ?_)
      have e1 : IntKind.i64.wrap ((off : Int) + (at' : Int)) = (off : Int) + (at' : Int) := IntWalk.i64_in _ (by omega)
      have e2 : IntKind.i64.wrap ((at' : Int) + (n' : Int)) = (at' : Int) + (n' : Int) := IntWalk.i64_in _ (by omega)
      have e3 : ((at' : Int) + (n' : Int)).toNat = at' + n' := by omega
      have e4 : (0 : Int) ≤ (at' : Int) + (n' : Int) := by omega
      have e5 : (at' : Int) + (n' : Int) ≤ (s.size : Int) := by omega
      have e6 : (at' : Int) ≤ (at' : Int) + (n' : Int) := by omega
      go_region_law (refine step_append_lies _ (by rfl) _ _ _ (by rfl) B 72 i0 (.agg #[.int .i64 0, .string ByteArray.empty]) 2 24 Try.underlying62 hi0 hz0 hz1 hz2 rfl (by decide) (.slice vq later'.length vc) later'.length (partCells later') (by simp [Act.eval]) ((World.ownsRow.alloc HD.out.lat _).drew) ⟨wr.heap.size, 0, none⟩ 1 1 [.int .i64 ((off : Int) + (at' : Int)), .string (s.extract at' (at' + n'))] (by simp [Act.eval]) (by rfl) (World.news_of_block (cs := #[.int .i64 ((off : Int) + (at' : Int)), .string (s.extract at' (at' + n'))]) (t := 72) (fr := (0, 0)) (heap_alloc_new wr _)) (by simp [Value.oneCell']) (by decide) (by unfold maxLen; omega) (by omega) (by simp; omega) (wr.heap.size + 1) (by simp) ?_; intro g cp w5 hown hgrow hat hlt5; have r := HD.out.laterCell hgrow; have r1 := r.1; have r2 := r.2; clear r)
      all_goals
        have S5 := HD.out.setLater hgrow (vl' := .slice (some ⟨g, 0, none⟩) (later'.length + 1) cp) (off := off + at') (t := s.extract at' (at' + n')) rfl (by rw [Int.natCast_add]; exact hown) hat (by simp [ByteArray.size_extract]; omega)
        have HS5 := Lib.hid S5
        clear S5 r1 r2 hown hgrow hat e1 e2 e3
        go_wp2_with fail
        go_roundw
        case rel => exact rwrel_step (nq := 0) HS5.out.1 HS5.out.2.1 HS5.out.2.2 HK.out (.inl rfl) hfl hsk HG.out HN.out hpos hN
        case measure => simp [intOf]; omega

end Go.Proofs.Yteekoocbdapciaa
