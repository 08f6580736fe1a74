/- The desk's act Crash. -/
import Derived.Test.YteekoocbdapciaaE3
namespace Go.Proofs.Yteekoocbdapciaa
open Go.RowKit Go.Lib

theorem DiskP.down {w : World} {B B' b : Nat} {vn vs vl : Value} {s : DS} (h : DiskP w B' b vn vs vl s) (hB : B ≤ B') : DiskP w B b vn vs vl s :=
  ⟨Nat.le_trans hB h.hB, h.obj, rebase h.now fun _k hk => Nat.le_trans hB (ownsRow_block h.now hk).1, rebase h.syn fun _k hk => Nat.le_trans hB (ownsRow_block h.syn hk).1, rebase h.lat fun _k hk => Nat.le_trans hB (ownsRow_block h.lat hk).1, h.apart, h.nowlen, h.synlen, h.parts⟩
theorem RefP.down {w : World} {B B' b : Nat} {vp : Value} {s : RS} (h : RefP w B' b vp s) (hB : B ≤ B') : RefP w B b vp s :=
  ⟨Nat.le_trans hB h.hB, h.obj, rebase h.lat fun _k hk => Nat.le_trans hB (ownsRow_block h.lat hk).1, h.nowlen, h.synlen, h.fit⟩

theorem Env.newDisk {w : World} {B x bd bm g : Nat} {vn vs vl vp vn' vs' vl' : Value} {s s' : DS} {r : RS} (h : Env w B x bd bm vn vs vl vp s r) (hd : DiskP w B g vn' vs' vl' s') :
    Env (w.setCell ⟨x, 0, none⟩ (.pointer (some ⟨g, 0, none⟩))) B x g bm vn' vs' vl' vp s' r := by
  have k := Kp.setCell (F := (· = x)) w (a := ⟨x, 0, none⟩) (.pointer (some ⟨g, 0, none⟩)) rfl
  have n1 := hd.not_foot h.hx (by decide) (by decide) (by decide)
  have n2 := h.r.not_foot h.hx (by decide) (by decide)
  exact ⟨h.hB, heap_setCell_same w x 0 _ 30 _ h.hx, hd.keep k fun j hj e => n1 (by rw [← e]; exact hj), h.r.keep k fun j hj e => n2 (by rw [← e]; exact hj)⟩
theorem Env.newRef {w : World} {B x bd bm g : Nat} {vn vs vl vp vp' : Value} {s : DS} {r r' : RS} (h : Env w B x bd bm vn vs vl vp s r) (hd : RefP w B g vp' r') :
    Env (w.setCell ⟨x, 1, none⟩ (.pointer (some ⟨g, 0, none⟩))) B x bd g vn vs vl vp' s r' := by
  have k := Kp.setCell (F := (· = x)) w (a := ⟨x, 1, none⟩) (.pointer (some ⟨g, 0, none⟩)) rfl
  have n1 := h.d.not_foot h.hx (by decide) (by decide) (by decide)
  have n2 := hd.not_foot h.hx (by decide) (by decide)
  exact ⟨h.hB, heap_setCell_same w x 1 _ 30 _ h.hx, h.d.keep k fun j hj e => n1 (by rw [← e]; exact hj), hd.keep k fun j hj e => n2 (by rw [← e]; exact hj)⟩

/-- The act's block behind a store into the desk. -/
theorem setCell_heap {w : World} {x bx i : Nat} {cs cs' : Array Value} {t t' : TypeId} (u : Value) (hx : w.heap[x]? = some (.cells cs t (0, 0))) (hb : w.heap[bx]? = some (.cells cs' t' (0, 0))) (hne : t ≠ t') : (w.setCell ⟨x, i, none⟩ u).heap[bx]? = some (.cells cs' t' (0, 0)) := by
  rw [Below.heap_setCell _ _ _ _ (fun e => ?_)]
  · exact hb
  · simp only at e
    subst e
    rw [hx] at hb
    cases hb
    exact hne rfl

theorem Env.sizeB {w : World} {B x bd bm : Nat} {vn vs vl vp : Value} {s : DS} {r : RS} (h : Env w B x bd bm vn vs vl vp s r) : B ≤ w.heap.size := by
  have := h.hB; have := (Array.getElem?_eq_some_iff.1 h.hx).1; omega

set_option maxHeartbeats 1000000 in
theorem do_crash {w : World} {B x bd bm : Nat} {vn vs vl vp : Value} {s : DS} {r : RS} (h : Env w B x bd bm vn vs vl vp s r) (hs : Same s r) (k o n : Int) (t : ByteArray) (hk : k % 8 = 7) (hl : s.later.length ≤ 1000000000) :
    Calls Try.prog 16 #[.pointer (some ⟨x, 0, none⟩), .agg #[.int .i64 k, .int .i64 o, .int .i64 n, .string t]] w (DoPost B x w (s.crash (survL n)) (r.crash (survL n))) := by
  obtain ⟨h1, b1⟩ := EnvA.start h k o n t
  have h1d := h1.keep (Kp.drew _ _)
  obtain ⟨x0, x1, a0, a1, a2, a3⟩ := h1d.s6
  have xf := frozen_of_row _ x 0 _ _ h1d.e.hx
  have hq := survL_length n
  have hrl : Hid (r.parts.length ≤ 1000000000) := Lib.hid (by rw [hs.parts]; exact hl)
  have HK := Lib.hid hk
  have B1 := Lib.hid b1.drew
  have H1 := Lib.hid h1d
  clear hk h h1 b1 hs h1d
  go_enter Try.func16, Try.ntmps16
  go_wp2_with fail
  refine (mod_any k 8 _ (by omega) (by omega)).mono ?_
  rintro e w' ⟨rfl, rfl⟩
  rw [HK.out]
  go_wp2_with fail
  go_region_with
    (first
      | (go_at_call 25; refine (survive_any _ _).mono ?_; rintro e w1 ⟨v1, rfl, hi1, k2⟩; have h2 := H1.out.keep k2; have y0 := h2.s6.1; have yf := frozen_of_row _ x 0 _ _ h2.e.hx)
      | (go_at_call 23; refine (crash_any h2.e.d _ _ hi1 hl (by omega)).mono ?_; rintro e w2 ⟨g, vn2, vs2, rfl, hd2, k3⟩; have h3 := h2.keep k3; have z0 := h3.s6.1; have zf := frozen_of_row _ x 0 _ _ h3.e.hx))
  all_goals
    have h4 : EnvA (w2.setCell ⟨x, 0, none⟩ (.pointer (some ⟨g, 0, none⟩))) B x w.heap.size g bm vn2 vs2 (.slice none 0 0) vp (s.crash (survL n)) r k o n t :=
      ⟨h3.e.newDisk (hd2.down h2.e.sizeB), setCell_heap _ h3.e.hx h3.a (by decide)⟩
    have b4 : Below B w (w2.setCell ⟨x, 0, none⟩ (.pointer (some ⟨g, 0, none⟩))) := ((B1.out.trans (H1.out.e.below0 k2)).trans (h2.e.below0 k3)).setCell (p := ⟨x, 0, none⟩) h3.e.hB _
    have B4 := Lib.hid b4
    clear h2 h3 k2 k3 hi1 hd2 y0 yf z0 zf b4
    obtain ⟨wf, hwf⟩ : ∃ wf, wf = w2.setCell ⟨x, 0, none⟩ (.pointer (some ⟨g, 0, none⟩)) := ⟨_, rfl⟩
    rw [← hwf] at h4 B4 ⊢
    clear hwf x0 x1 a0 a1 a2 a3 xf
    have H4 := Lib.hid (h4.keep (Kp.drew _ _))
    clear h4
    have u1 := H4.out.s6.2.1
    have u2 := H4.out.s6.2.2.2.2.1
    have uf := frozen_of_row _ x 1 _ _ H4.out.e.hx
    go_wp2_with fail
    go_region_with
      (first
        | (go_at_call 25; refine (survive_any _ _).mono ?_; rintro e w5 ⟨v5, rfl, hi5, k5⟩; have h5 := H4.out.keep k5; have y1 := h5.s6.2.1; have yf := frozen_of_row _ x 1 _ _ h5.e.hx)
        | (go_at_call 24; refine (rcrash_any h5.e.r _ _ hi5 hrl.out (by omega)).mono ?_; rintro e w6 ⟨g6, rfl, hr6, k6⟩; have h6 := h5.keep k6; have z1 := h6.s6.2.1; have zf := frozen_of_row _ x 1 _ _ h6.e.hx))
    all_goals
      have h7 : EnvA (w6.setCell ⟨x, 1, none⟩ (.pointer (some ⟨g6, 0, none⟩))) B x w.heap.size g g6 vn2 vs2 (.slice none 0 0) (.slice none 0 0) (s.crash (survL n)) (r.crash (survL n)) k o n t :=
        ⟨h6.e.newRef (hr6.down h5.e.sizeB), setCell_heap _ h6.e.hx h6.a (by decide)⟩
      have b7 : Below B w (w6.setCell ⟨x, 1, none⟩ (.pointer (some ⟨g6, 0, none⟩))) := ((B4.out.drew.trans (H4.out.e.below0 k5)).trans (h5.e.below0 k6)).setCell (p := ⟨x, 1, none⟩) h6.e.hB _
      have v0 := h7.s6.1
      have H7 := Lib.hid h7
      have B7 := Lib.hid b7
      clear h5 h6 h7 b7 k5 k6 hi5 hr6 y1 yf z1 zf
      go_wp2_with fail
      go_ret
      exact ⟨rfl, ⟨_, _, _, _, _, _, H7.out.e⟩, B7.out⟩

end Go.Proofs.Yteekoocbdapciaa
