/- A disk and its model in one memory: what a world holds of both, and of a desk that points to them. -/
import Derived.Test.YteekoocbdapciaaL3
namespace Go.Proofs.Yteekoocbdapciaa
open Go.RowKit Go.Lib

/-- Each block of a disk has one of three element types. -/
theorem DiskP.foot_type {w : World} {B b : Nat} {vn vs vl : Value} {s : DS} (h : DiskP w B b vn vs vl s) {k : Nat} (hk : foot b vn vs vl k) : ∃ cur t, w.heap[k]? = some (.cells cur t (0, 0)) ∧ (t = 60 ∨ t = 5 ∨ t = 68) := by
  rcases hk with rfl | hk | hk | hk
  · exact ⟨_, _, h.obj, .inl rfl⟩
  · obtain ⟨_, _, cur, e⟩ := ownsRow_block h.now hk; exact ⟨_, _, e, .inr (.inl rfl)⟩
  · obtain ⟨_, _, cur, e⟩ := ownsRow_block h.syn hk; exact ⟨_, _, e, .inr (.inl rfl)⟩
  · obtain ⟨_, _, cur, e⟩ := ownsRow_block h.lat hk; exact ⟨_, _, e, .inr (.inr rfl)⟩

theorem RefP.foot_type {w : World} {B b : Nat} {vp : Value} {s : RS} (h : RefP w B b vp s) {k : Nat} (hk : footR b vp k) : ∃ cur t, w.heap[k]? = some (.cells cur t (0, 0)) ∧ (t = 64 ∨ t = 72) := by
  rcases hk with rfl | hk
  · exact ⟨_, _, h.obj, .inl rfl⟩
  · obtain ⟨_, _, cur, e⟩ := ownsRow_block h.lat hk; exact ⟨_, _, e, .inr rfl⟩

theorem DiskP.not_foot {w : World} {B b : Nat} {vn vs vl : Value} {s : DS} (h : DiskP w B b vn vs vl s) {x : Nat} {cs : Array Value} {t : TypeId} (hx : w.heap[x]? = some (.cells cs t (0, 0))) (h1 : t ≠ 60) (h2 : t ≠ 5) (h3 : t ≠ 68) : ¬ foot b vn vs vl x := by
  intro hk
  obtain ⟨cur, u, e, hu⟩ := h.foot_type hk
  rw [hx] at e
  cases e
  rcases hu with hu | hu | hu
  · exact h1 hu
  · exact h2 hu
  · exact h3 hu

theorem RefP.not_foot {w : World} {B b : Nat} {vp : Value} {s : RS} (h : RefP w B b vp s) {x : Nat} {cs : Array Value} {t : TypeId} (hx : w.heap[x]? = some (.cells cs t (0, 0))) (h1 : t ≠ 64) (h2 : t ≠ 72) : ¬ footR b vp x := by
  intro hk
  obtain ⟨cur, u, e, hu⟩ := h.foot_type hk
  rw [hx] at e
  cases e
  rcases hu with hu | hu
  · exact h1 hu
  · exact h2 hu

theorem apart_DR {w : World} {B b B' b' : Nat} {vn vs vl vp : Value} {s : DS} {r : RS} (h : DiskP w B b vn vs vl s) (h' : RefP w B' b' vp r) : ∀ k, foot b vn vs vl k → ¬ footR b' vp k := by
  intro k hk hk'
  obtain ⟨cur, u, e, hu⟩ := h.foot_type hk
  obtain ⟨cur', u', e', hu'⟩ := h'.foot_type hk'
  rw [e] at e'
  cases e'
  rcases hu with hu | hu | hu <;> rcases hu' with hu' | hu' <;> (rw [hu] at hu'; exact absurd hu' (by decide))

theorem Kp.heap {F : Nat → Prop} {w w' : World} (h : Kp F w w') {x : Nat} {o : Obj} (hx : w.heap[x]? = some o) (hF : ¬ F x) : w'.heap[x]? = some o :=
  (h.block x (Array.getElem?_eq_some_iff.1 hx).1 hF).trans hx

/-- Both at once: the desk's block x, the disk, the model. -/
structure Env (w : World) (B x bd bm : Nat) (vn vs vl vp : Value) (s : DS) (r : RS) : Prop where
  hB : B ≤ x
  hx : w.heap[x]? = some (.cells #[.pointer (some ⟨bd, 0, none⟩), .pointer (some ⟨bm, 0, none⟩)] 30 (0, 0))
  d : DiskP w B bd vn vs vl s
  r : RefP w B bm vp r

theorem Env.keep {w w' : World} {B x bd bm : Nat} {vn vs vl vp : Value} {s : DS} {r : RS} (h : Env w B x bd bm vn vs vl vp s r) (hk : Kp (fun _ => False) w w') : Env w' B x bd bm vn vs vl vp s r :=
  ⟨h.hB, hk.heap h.hx (fun h => h), h.d.keep hk (fun _ _ h => h), h.r.keep hk (fun _ _ h => h)⟩

theorem Env.disk {w w' : World} {B x bd bm : Nat} {vn vs vl vp vn' vs' vl' : Value} {s s' : DS} {r : RS} (h : Env w B x bd bm vn vs vl vp s r) (hk : Kp (foot bd vn vs vl) w w') (hd : DiskP w' B bd vn' vs' vl' s') : Env w' B x bd bm vn' vs' vl' vp s' r :=
  ⟨h.hB, hk.heap h.hx (h.d.not_foot h.hx (by decide) (by decide) (by decide)), hd, h.r.keep hk fun k e e' => apart_DR h.d h.r k e' e⟩

theorem Env.ref {w w' : World} {B x bd bm : Nat} {vn vs vl vp vp' : Value} {s : DS} {r r' : RS} (h : Env w B x bd bm vn vs vl vp s r) (hk : Kp (footR bm vp) w w') (hd : RefP w' B bm vp' r') : Env w' B x bd bm vn vs vl vp' s r' :=
  ⟨h.hB, hk.heap h.hx (h.r.not_foot h.hx (by decide) (by decide)), h.d.keep hk fun k e e' => apart_DR h.d h.r k e e', hd⟩

theorem Env.x01 {w : World} {B x bd bm : Nat} {vn vs vl vp : Value} {s : DS} {r : RS} (h : Env w B x bd bm vn vs vl vp s r) :
    w.cell? ⟨x, 0, none⟩ = some (.pointer (some ⟨bd, 0, none⟩)) ∧ w.cell? ⟨x, 1, none⟩ = some (.pointer (some ⟨bm, 0, none⟩)) :=
  ⟨cell_of_row w x 0 _ _ _ h.hx, cell_of_row w x 1 _ _ _ h.hx⟩

/-- What the disk writes lies from B on. -/
theorem Env.belowD {w w' : World} {B x bd bm : Nat} {vn vs vl vp : Value} {s : DS} {r : RS} (h : Env w B x bd bm vn vs vl vp s r) (hk : Kp (foot bd vn vs vl) w w') : Below B w w' :=
  hk.below (fun k hk => (h.d.foot_lt hk).1) (by have := h.hB; have := (Array.getElem?_eq_some_iff.1 h.hx).1; omega)
theorem Env.belowR {w w' : World} {B x bd bm : Nat} {vn vs vl vp : Value} {s : DS} {r : RS} (h : Env w B x bd bm vn vs vl vp s r) (hk : Kp (footR bm vp) w w') : Below B w w' :=
  hk.below (fun k hk => (h.r.foot_lt hk).1) (by have := h.hB; have := (Array.getElem?_eq_some_iff.1 h.hx).1; omega)
theorem Env.below0 {w w' : World} {B x bd bm : Nat} {vn vs vl vp : Value} {s : DS} {r : RS} (h : Env w B x bd bm vn vs vl vp s r) (hk : Kp (fun _ => False) w w') : Below B w w' :=
  hk.below (fun k hk => hk.elim) (by have := h.hB; have := (Array.getElem?_eq_some_iff.1 h.hx).1; omega)

/-- The desk, its parts unnamed. -/
def DeskAt (w : World) (B x : Nat) (s : DS) (r : RS) : Prop := ∃ bd bm vn vs vl vp, Env w B x bd bm vn vs vl vp s r

/-- Behind an act: the answer is true, and both have gone on alike. -/
def DoPost (B x : Nat) (w : World) (s' : DS) (r' : RS) (e : Ending) (w' : World) : Prop := e = .returned (.bool true) ∧ DeskAt w' B x s' r' ∧ Below B w w'

set_option maxHeartbeats 1000000 in
theorem do_sync {w : World} {B x bd bm : Nat} {vn vs vl vp : Value} {s : DS} {r : RS} (h : Env w B x bd bm vn vs vl vp s r) (hs : Same s r) (k o n : Int) (t : ByteArray) (hk : k % 8 = 4) :
    Calls Try.prog 16 #[.pointer (some ⟨x, 0, none⟩), .agg #[.int .i64 k, .int .i64 o, .int .i64 n, .string t]] w (DoPost B x w s.syncS r.syncS) := by
  have hk0 := Kp.alloc (fun _ => False) w (.cells #[.int .i64 k, .int .i64 o, .int .i64 n, .string t] 33)
  have h1 := h.keep hk0
  have h2 := h1.keep (Kp.drew _ _)
  obtain ⟨x0, x1⟩ := h2.x01
  have HC := Lib.hid hs.sync.2
  have HK := Lib.hid hk
  have B1 := Lib.hid (h.below0 hk0).drew
  have H2 := Lib.hid h2
  clear hk hs h h1 h2 hk0
  go_enter Try.func16, Try.ntmps16
  go_wp2_with (go_at_call 22; refine (mod_any _ _ _ (by omega) (by omega)).mono ?_; rintro e w' ⟨rfl, rfl⟩; rw [HK.out])
  go_region_held3 (fun w' => w'.cell? ⟨x, 0, none⟩ = some (.pointer (some ⟨bd, 0, none⟩)) ∧ w'.cell? ⟨x, 1, none⟩ = some (.pointer (some ⟨bm, 0, none⟩)))
    (first | go_keep | exact hS2 | exact hS1)
    (first
      | (go_at_call 28; refine (sync_D H2.out.d).mono ?_; rintro e w1 ⟨rfl, vn1, vs1, vl1, hd1, hk1, hf1⟩; have h3 := H2.out.disk hk1 hd1; have hS1 := h3.x01)
      | (go_at_call 33; refine (sync_R h3.r).mono ?_; rintro e w2 ⟨rfl, vp1, hr1, hk2, hf2⟩; have h4 := h3.ref hk2 hr1; have hS2 := h4.x01))
  have H4 := Lib.hid h4
  have BB := Lib.hid ((B1.out.trans (H2.out.belowD hk1)).trans (h3.belowR hk2))
  clear h3 h4 hS1 hS2 x0 x1 hk1 hk2 hf1 hf2 hd1 hr1 H2 B1
  go_wp2_with fail
  go_ret
  exact ⟨by rw [HC.out]; simp, ⟨_, _, _, _, _, _, H4.out⟩, BB.out⟩

end Go.Proofs.Yteekoocbdapciaa
