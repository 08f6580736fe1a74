/- The arguments of the laws, opened to cells. -/
import Derived.Test.YtlkamfmepjddkaaQ8
import Derived.ProofKit
import Derived.OpenShut
import Derived.ShutString
import Derived.ChangeOld
import Derived.Deep.Slices
import Derived.Deep.Fields
import Derived.ChangeSame
import Derived.SizedLaws
set_option linter.unusedSimpArgs false
set_option linter.unusedVariables false
namespace Go.Proofs.Ytlkamfmepjddkaa
open Go.ChangeShapes Go.WideShapes Go.ChangeAt Go.RowKit Go.Deep Go.Lib

theorem ownT : ownKnob Try.prog.godebug = none := by kernel_rfl

section
variable {H : Type} {enc : TypeId × Value → H} {w : World} {base : Nat} {spare : Nat → Bool} {held : Bool}

/-- A struct whose fields have one cell each: its cells. -/
theorem open_fields {P : Program} {e : TypeId} {fs : Array Field} {fuel : Nat} {cs : List Value} {x : DataW H × List MemPlace} (he : P.underlying e = some (.struct fs)) (hone : oneCellFields P fs = true) (hC : P.cellsOf e = fs.size)
    (h : DataW.trod enc P w base spare held fuel e cs = some x) : ∃ (ys : List (DataW H × List MemPlace)) (n : Nat), x.1 = .agg (ys.map (·.1)) ∧ ys.length = fs.size ∧ cs.length = fs.size ∧
      ∀ (j : Nat) (f : Field), fs[j]? = some f → ∃ (v : Value) (y : DataW H × List MemPlace), cs[j]? = some v ∧ ys[j]? = some y ∧ DataW.trod enc P w base spare held n f.type [v] = some y := by
  obtain ⟨ys, n', hn', hy, hlen, hyl, hf⟩ := DataW.trod_struct he h
  subst hy
  refine ⟨ys, n', rfl, hyl, by rw [hlen, hC], fun j f hj => ?_⟩
  obtain ⟨ho, hk⟩ := hone_of hone j f hj
  have hjl : j < fs.size := (Array.getElem?_eq_some_iff.1 hj).1
  have h1 := hf j f hj
  rw [ho, hk] at h1
  have hcl : j < cs.length := by rw [hlen, hC]; exact hjl
  have hone' : (cs.drop j).take 1 = [cs[j]] := by
    rw [List.drop_eq_getElem_cons hcl]
    rfl
  rw [hone'] at h1
  have hys : ys[j]? = some (ys[j]'(by omega)) := List.getElem?_eq_getElem (by omega)
  exact ⟨_, _, List.getElem?_eq_getElem hcl, hys, h1.trans hys⟩
end

section
variable {H : Type} {enc : TypeId × Value → H} {w : World} {base : Nat} {spare : Nat → Bool} {held : Bool}

theorem cell_int {n : Nat} {v : Value} {y : DataW H × List MemPlace} (h : DataW.trod enc Try.prog w base spare held n 3 [v] = some y) : ∃ k, v = .int .i64 k ∧ (Lit.int .i64 k).wf = true := by
  obtain ⟨k, e, _, hw⟩ := DataW.trod_int Try.underlying3 h
  exact ⟨k, by simpa using e, hw⟩
theorem cell_str {n : Nat} {v : Value} {y : DataW H × List MemPlace} (h : DataW.trod enc Try.prog w base spare held n 9 [v] = some y) : ∃ s : ByteArray, v = .string s ∧ s.size ≤ 9223372036854775807 := by
  obtain ⟨k, e, _, hw⟩ := DataW.trod_string Try.underlying9 h
  exact ⟨k, by simpa using e, by simpa [maxLen] using hw⟩
theorem cell_u8 {n : Nat} {v : Value} {y : DataW H × List MemPlace} (h : DataW.trod enc Try.prog w base spare held n 5 [v] = some y) : ∃ k : UInt8, v = .int .u8 (k.toNat : Int) := by
  obtain ⟨k, e, _, hw⟩ := DataW.trod_int Try.underlying5 h
  have hk : 0 ≤ k ∧ k ≤ 255 := by simpa [Lit.wf, IntKind.min, IntKind.max, IntKind.signed, IntKind.bits] using hw
  refine ⟨UInt8.ofNat k.toNat, ?_⟩
  have e1 : ((UInt8.ofNat k.toNat).toNat : Int) = k := by simp; omega
  rw [e1]
  simpa using e
end

instance : Inhabited Ac := ⟨⟨0, 0, 0, 0⟩⟩
instance : Inhabited Bh := ⟨⟨0, 0, 0⟩⟩
instance : Inhabited ByteArray := ⟨emptyS⟩

/-- Cells that are known one by one. -/
theorem src_of {w : World} {a : Addr} {len sz : Nat} {xs : List Value} (hsz : 0 < sz) (hl : xs.length = len * sz) (h : ∀ k v, xs[k]? = some v → w.cell? (a.add k) = some v) : Src w sz (some a) len xs := by
  refine ⟨hl, fun h0 => ?_⟩
  obtain ⟨b, off, spot⟩ := a
  have hpos : 0 < xs.length := by rw [hl]; exact Nat.mul_pos h0 hsz
  have h00 := h 0 xs[0] (List.getElem?_eq_getElem hpos)
  have hspot : spot = none := by simpa [Addr.add] using World.cell?_spot h00
  subst hspot
  refine ⟨b, off, rfl, fun j v hv => ?_⟩
  have := h j v hv
  rwa [addr0] at this
theorem src_flat {α : Type} {w : World} {a : Addr} (f : α → List Value) (n : Nat) (hn : 0 < n) (l : List α) (hl : ∀ x, (f x).length = n) (h : ∀ i x, l[i]? = some x → ∀ j v, (f x)[j]? = some v → w.cell? (a.add (i * n + j)) = some v) : Src w n (some a) l.length (l.flatMap f) := by
  refine src_of hn (flat_length f n l fun x _ => hl x) fun k v hv => ?_
  have hk : k < (l.flatMap f).length := (List.getElem?_eq_some_iff.1 hv).1
  rw [flat_length f n l fun x _ => hl x] at hk
  have hi : k / n < l.length := by rw [Nat.div_lt_iff_lt_mul hn]; exact hk
  have hj : k % n < n := Nat.mod_lt _ hn
  have hx : l[k / n]? = some l[k / n] := List.getElem?_eq_getElem hi
  have hkk : k / n * n + k % n = k := by rw [Nat.mul_comm]; exact Nat.div_add_mod k n
  have := h (k / n) _ hx (k % n) v (by rw [← flat_at f n l (k / n) _ (fun y _ => hl y) hx _ hj, hkk]; exact hv)
  rwa [hkk] at this

theorem fs35 : ∃ fs, Try.prog.underlying 35 = some (.struct fs) ∧ oneCellFields Try.prog fs = true ∧ Try.prog.cellsOf 35 = fs.size ∧ (fs.toList.map (·.type)) = [3, 3, 3, 3] := ⟨_, Try.underlying35, by kernel_rfl, by kernel_rfl, by kernel_rfl⟩
theorem fs42 : ∃ fs, Try.prog.underlying 42 = some (.struct fs) ∧ oneCellFields Try.prog fs = true ∧ Try.prog.cellsOf 42 = fs.size ∧ (fs.toList.map (·.type)) = [3, 3, 3] := ⟨_, Try.underlying42, by kernel_rfl, by kernel_rfl, by kernel_rfl⟩
theorem fs25 : ∃ fs, Try.prog.underlying 25 = some (.struct fs) ∧ oneCellFields Try.prog fs = true ∧ Try.prog.cellsOf 25 = fs.size ∧ (fs.toList.map (·.type)) = [22, 22, 23] := ⟨_, Try.underlying25, by kernel_rfl, by kernel_rfl, by kernel_rfl⟩
theorem ty_at {fs : Array Field} {ts : List TypeId} (h : fs.toList.map (·.type) = ts) (j : Nat) (t : TypeId) (hj : ts[j]? = some t) : ∃ f : Field, fs[j]? = some f ∧ f.type = t := by
  rw [← h, List.getElem?_map] at hj
  obtain ⟨f, hf1, hf2⟩ := Option.map_eq_some_iff.1 hj
  exact ⟨f, by simpa using hf1, hf2⟩
theorem cells3 : Try.prog.cellsOf 3 = 1 := by kernel_rfl
theorem cells9 : Try.prog.cellsOf 9 = 1 := by kernel_rfl
theorem cells40 : Try.prog.cellsOf 40 = 1 := by kernel_rfl
theorem cells5u : Try.prog.cellsOf 5 = 1 := by kernel_rfl
theorem cells42 : Try.prog.cellsOf 42 = 3 := by kernel_rfl
theorem cells35 : Try.prog.cellsOf 35 = 4 := by kernel_rfl
theorem bytes42 : Try.prog.bytesOf 42 = 24 := by kernel_rfl

section
variable {H : Type} {enc : TypeId × Value → H} {w : World} {base : Nat} {spare : Nat → Bool} {held : Bool}

/-- A behaviour. -/
theorem open_bh {n : Nat} {cs : List Value} {y : DataW H × List MemPlace} (h : DataW.trod enc Try.prog w base spare held n 42 cs = some y) : ∃ b : Bh, cs = bhCells b := by
  obtain ⟨fs, hfs, hone, hC, hty⟩ := fs42
  have hsz : fs.size = 3 := by
    have := congrArg List.length hty
    simpa using this
  obtain ⟨ys, m, _, _, hl, hf⟩ := open_fields hfs hone hC h
  obtain ⟨f0, e0, t0⟩ := ty_at hty 0 3 rfl
  obtain ⟨f1, e1, t1⟩ := ty_at hty 1 3 rfl
  obtain ⟨f2, e2, t2⟩ := ty_at hty 2 3 rfl
  obtain ⟨u0, y0, g0, _, r0⟩ := hf 0 f0 e0
  obtain ⟨u1, y1, g1, _, r1⟩ := hf 1 f1 e1
  obtain ⟨u2, y2, g2, _, r2⟩ := hf 2 f2 e2
  rw [t0] at r0
  rw [t1] at r1
  rw [t2] at r2
  obtain ⟨k0, rfl, _⟩ := cell_int r0
  obtain ⟨k1, rfl, _⟩ := cell_int r1
  obtain ⟨k2, rfl, _⟩ := cell_int r2
  refine ⟨⟨k0, k1, k2⟩, ?_⟩
  rw [hsz] at hl
  match cs, hl with
  | [a, b, c], _ =>
    simp at g0 g1 g2
    subst g0 g1 g2
    rfl
theorem open_ac {n : Nat} {cs : List Value} {y : DataW H × List MemPlace} (h : DataW.trod enc Try.prog w base spare held n 35 cs = some y) : ∃ b : Ac, cs = acCells b := by
  obtain ⟨fs, hfs, hone, hC, hty⟩ := fs35
  have hsz : fs.size = 4 := by
    have := congrArg List.length hty
    simpa using this
  obtain ⟨ys, m, _, _, hl, hf⟩ := open_fields hfs hone hC h
  obtain ⟨f0, e0, t0⟩ := ty_at hty 0 3 rfl
  obtain ⟨f1, e1, t1⟩ := ty_at hty 1 3 rfl
  obtain ⟨f2, e2, t2⟩ := ty_at hty 2 3 rfl
  obtain ⟨f3, e3, t3⟩ := ty_at hty 3 3 rfl
  obtain ⟨u0, y0, g0, _, r0⟩ := hf 0 f0 e0
  obtain ⟨u1, y1, g1, _, r1⟩ := hf 1 f1 e1
  obtain ⟨u2, y2, g2, _, r2⟩ := hf 2 f2 e2
  obtain ⟨u3, y3, g3, _, r3⟩ := hf 3 f3 e3
  rw [t0] at r0
  rw [t1] at r1
  rw [t2] at r2
  rw [t3] at r3
  obtain ⟨k0, rfl, _⟩ := cell_int r0
  obtain ⟨k1, rfl, _⟩ := cell_int r1
  obtain ⟨k2, rfl, _⟩ := cell_int r2
  obtain ⟨k3, rfl, _⟩ := cell_int r3
  refine ⟨⟨k0, k1, k2, k3⟩, ?_⟩
  rw [hsz] at hl
  match cs, hl with
  | [a, b, c, d], _ =>
    simp at g0 g1 g2 g3
    subst g0 g1 g2 g3
    rfl

/-- A slice of structs, opened by what opens one. -/
theorem open_rows {α : Type} [Inhabited α] {t e : TypeId} {sz n : Nat} {v : Value} {y : DataW H × List MemPlace} (f : α → List Value) (hfl : ∀ x, (f x).length = sz) (hpos : 0 < sz) (ht : Try.prog.underlying t = some (.slice e)) (hC : Try.prog.cellsOf e = sz)
    (hopen : ∀ {m : Nat} {cs : List Value} {z : DataW H × List MemPlace}, DataW.trod enc Try.prog w base spare held m e cs = some z → ∃ b : α, cs = f b) (h : DataW.trod enc Try.prog w base spare held n t [v] = some y) :
    ∃ (l : List α) (sp : Option Addr) (cap : Nat), v = .slice sp l.length cap ∧ Src w sz sp l.length (l.flatMap f) ∧ (l.length = 0 ∨ ∃ els rest, y.1 = .slice els rest ∧ els.length = l.length) := by
  rcases open_slice ht h with ⟨hcs, _⟩ | ⟨a, len, cap, m, n', D, Pl, hcs, _, hl, hm, hmm, hx, hi⟩
  · simp at hcs
    subst hcs
    exact ⟨[], none, 0, rfl, Src.nil _ _ _, .inl rfl⟩
  · simp at hcs
    subst hcs
    have hlm : len ≤ m := by rw [hmm]; split <;> omega
    have key : ∀ i, i < len → ∃ b : α, ∀ j u, (f b)[j]? = some u → w.cell? (a.add (i * sz + j)) = some u := by
      intro i hil
      obtain ⟨cs', hc, ht'⟩ := hi i (by omega)
      obtain ⟨b, rfl⟩ := hopen ht'
      rw [hC] at hc
      refine ⟨b, fun j u hu => ?_⟩
      obtain ⟨_, _, hat⟩ := World.cells?_some hc
      have hjl : j < sz := by rw [← hfl b]; exact (List.getElem?_eq_some_iff.1 hu).1
      have := hat j hjl
      rw [← Go.Deep.add_add, this, hu]
    obtain ⟨g, hg⟩ := choose_lt key
    refine ⟨(List.range len).map g, some a, cap, by simp, ?_, .inr ⟨_, _, by rw [hx], by simp⟩⟩
    refine src_flat f sz hpos _ hfl fun i x hx j v hv => ?_
    rw [List.getElem?_map] at hx
    obtain ⟨i', h1, rfl⟩ := Option.map_eq_some_iff.1 hx
    have hil : i < len := by
      have := (List.getElem?_eq_some_iff.1 h1).1
      simpa using this
    have : i' = i := by
      rw [List.getElem?_range hil] at h1
      exact (Option.some.inj h1).symm
    subst this
    exact hg i' hil j v hv

theorem open_strs {n : Nat} {v : Value} {y : DataW H × List MemPlace} (h : DataW.trod enc Try.prog w base spare held n 22 [v] = some y) :
    ∃ (L : List ByteArray) (sp : Option Addr) (cap : Nat), v = .slice sp L.length cap ∧ Src w 1 sp L.length (strV L) ∧ ∀ s ∈ L, s.size ≤ 9223372036854775807 := by
  rcases open_slice1 Try.underlying22 cells9 h with ⟨hcs, _⟩ | ⟨a, len, cap, m, n', V, D, Pl, hcs, _, hl, hm, hmm, _, hi⟩
  · simp at hcs
    subst hcs
    exact ⟨[], none, 0, rfl, Src.nil _ _ _, by simp⟩
  · simp at hcs
    subst hcs
    have hlm : len ≤ m := by rw [hmm]; split <;> omega
    have key : ∀ i, i < len → ∃ s : ByteArray, w.cell? (a.add i) = some (.string s) ∧ s.size ≤ 9223372036854775807 := by
      intro i hil
      obtain ⟨hc, ht'⟩ := hi i (by omega)
      obtain ⟨s, hs, hz⟩ := cell_str ht'
      exact ⟨s, by rw [hc, hs], hz⟩
    obtain ⟨g, hg⟩ := choose_lt key
    refine ⟨(List.range len).map g, some a, cap, by simp, ?_, fun s hs => ?_⟩
    · refine src_of (by decide) (by simp [strV]) fun k v hv => ?_
      simp only [strV, List.map_map, List.getElem?_map] at hv
      obtain ⟨i', h1, rfl⟩ := Option.map_eq_some_iff.1 hv
      have hil : k < len := by
        have := (List.getElem?_eq_some_iff.1 h1).1
        simpa using this
      have : i' = k := by
        rw [List.getElem?_range hil] at h1
        exact (Option.some.inj h1).symm
      subst this
      exact (hg i' hil).1
    · obtain ⟨i, hi1, rfl⟩ := List.mem_map.1 hs
      exact (hg i (List.mem_range.1 hi1)).2

set_option maxRecDepth 100000 in
theorem open_script {n : Nat} {v : Value} {y : DataW H × List MemPlace} (h : DataW.trod enc Try.prog w base spare held n 40 [v] = some y) (hw : (DataW.weights Try.prog 40 y.1).all (· ≤ reachBytes) = true) :
    ∃ (l : List Bh) (sp : Option Addr) (cap : Nat), v = .slice sp l.length cap ∧ Src w 3 sp l.length (bhs l) ∧ l.length ≤ 5864062014805 := by
  obtain ⟨l, sp, cap, hv, hs, hlen⟩ := open_rows bhCells (fun _ => rfl) (by decide) Try.underlying40 cells42 open_bh h
  refine ⟨l, sp, cap, hv, hs, ?_⟩
  rcases hlen with h0 | ⟨els, rest, hy, hel⟩
  · omega
  · rw [hy] at hw
    unfold DataW.weights at hw
    rw [Try.underlying40] at hw
    simp only [List.all_cons, Bool.and_eq_true, decide_eq_true_eq, bytes42, reachBytes] at hw
    have := of_decide_eq_true hw.1
    omega

theorem weightsAll_mem {e : TypeId} {ds : List (DataW H)} (h : (DataW.weightsAll Try.prog e ds).all (· ≤ reachBytes) = true) : ∀ d ∈ ds, (DataW.weights Try.prog e d).all (· ≤ reachBytes) = true := by
  induction ds with
  | nil => intro d hd; cases hd
  | cons d0 ds ih =>
    intro d hd
    unfold DataW.weightsAll at h
    rw [List.all_append, Bool.and_eq_true] at h
    rcases List.mem_cons.1 hd with rfl | hd
    · exact h.1
    · exact ih h.2 d hd

set_option maxRecDepth 100000 in
theorem open_scripts {n : Nat} {v : Value} {y : DataW H × List MemPlace} (h : DataW.trod enc Try.prog w base spare held n 23 [v] = some y) (hw : (DataW.weights Try.prog 23 y.1).all (· ≤ reachBytes) = true) :
    ∃ (LS : List (List Bh)) (sp : Option Addr) (cap : Nat) (sv : List Value), v = .slice sp LS.length cap ∧ ScrSrc w sp sv LS ∧ ∀ l ∈ LS, l.length ≤ 5864062014805 := by
  rcases open_slice1 Try.underlying23 cells40 h with ⟨hcs, _⟩ | ⟨a, len, cap, m, n', V, D, Pl, hcs, _, hl, hm, hmm, hx, hi⟩
  · simp at hcs
    subst hcs
    exact ⟨[], none, 0, [], rfl, ⟨Src.nil _ _ _, fun i m l hm => by simp at hm⟩, by simp⟩
  · simp at hcs
    subst hcs
    have hlm : len ≤ m := by rw [hmm]; split <;> omega
    have hwa : ∀ i, i < len → (DataW.weights Try.prog 40 (D i)).all (· ≤ reachBytes) = true := by
      intro i hil
      rw [hx] at hw
      unfold DataW.weights at hw
      rw [Try.underlying23] at hw
      simp only [List.all_cons, List.all_append, Bool.and_eq_true] at hw
      exact weightsAll_mem hw.2.1 (D i) (List.mem_map.2 ⟨i, List.mem_range.2 hil, rfl⟩)
    have key : ∀ i, i < len → ∃ l : List Bh, w.cell? (a.add i) = some (V i) ∧ (∃ sp cap, V i = .slice sp l.length cap ∧ Src w 3 sp l.length (bhs l)) ∧ l.length ≤ 5864062014805 := by
      intro i hil
      obtain ⟨hc, ht'⟩ := hi i (by omega)
      obtain ⟨l, sp, cap', hv, hs, hll⟩ := open_script ht' (hwa i hil)
      exact ⟨l, hc, ⟨sp, cap', hv, hs⟩, hll⟩
    obtain ⟨g, hg⟩ := choose_lt key
    have hidx : ∀ {β : Type} (q : Nat → β) (k : Nat) (b : β), ((List.range len).map q)[k]? = some b → k < len ∧ b = q k := by
      intro β q k b hb
      rw [List.getElem?_map] at hb
      obtain ⟨i', h1, rfl⟩ := Option.map_eq_some_iff.1 hb
      have hil : k < len := by
        have := (List.getElem?_eq_some_iff.1 h1).1
        simpa using this
      rw [List.getElem?_range hil] at h1
      cases h1
      exact ⟨hil, rfl⟩
    refine ⟨(List.range len).map g, some a, cap, (List.range len).map V, by simp, ⟨?_, fun i m l hm hl => ?_⟩, fun l hl => ?_⟩
    · refine src_of (by decide) (by simp) fun k v hv => ?_
      obtain ⟨hk, rfl⟩ := hidx V k v hv
      exact (hg k hk).1
    · obtain ⟨hk, rfl⟩ := hidx V i m hm
      obtain ⟨_, rfl⟩ := hidx g i l hl
      exact (hg i hk).2.1
    · obtain ⟨i, hi1, rfl⟩ := List.mem_map.1 hl
      exact (hg i (List.mem_range.1 hi1)).2.2

theorem open_world {n : Nat} {v : Value} {y : DataW H × List MemPlace} (hv : ∃ cs, v = .agg cs) (h : DataW.trod enc Try.prog w base spare held n 25 v.cells.toList = some y) (hw : (DataW.weights Try.prog 25 y.1).all (· ≤ reachBytes) = true) :
    ∃ LP LO LS, WArg w v LP LO LS := by
  obtain ⟨cs, rfl⟩ := hv
  obtain ⟨fs, hfs, hone, hC, hty⟩ := fs25
  have hsz : fs.size = 3 := by
    have := congrArg List.length hty
    simpa using this
  obtain ⟨ys, m, hy, hyl, hl, hf⟩ := open_fields hfs hone hC h
  obtain ⟨f0, e0, t0⟩ := ty_at hty 0 22 rfl
  obtain ⟨f1, e1, t1⟩ := ty_at hty 1 22 rfl
  obtain ⟨f2, e2, t2⟩ := ty_at hty 2 23 rfl
  obtain ⟨u0, y0, g0, q0, r0⟩ := hf 0 f0 e0
  obtain ⟨u1, y1, g1, q1, r1⟩ := hf 1 f1 e1
  obtain ⟨u2, y2, g2, q2, r2⟩ := hf 2 f2 e2
  rw [t0] at r0
  rw [t1] at r1
  rw [t2] at r2
  rw [hsz] at hyl hl
  have hys : ys = [y0, y1, y2] := by
    match ys, hyl with
    | [a, b, c], _ =>
      simp at q0 q1 q2
      rw [q0, q1, q2]
  have hw2 : (DataW.weights Try.prog 23 y2.1).all (· ≤ reachBytes) = true := by
    rw [hy, hys] at hw
    unfold DataW.weights at hw
    rw [hfs] at hw
    simp only [hty, List.map_cons, List.map_nil] at hw
    unfold DataW.weightsEach at hw
    rw [List.all_append, Bool.and_eq_true] at hw
    have hw := hw.2
    unfold DataW.weightsEach at hw
    rw [List.all_append, Bool.and_eq_true] at hw
    have hw := hw.2
    unfold DataW.weightsEach at hw
    rw [List.all_append, Bool.and_eq_true] at hw
    exact hw.1
  obtain ⟨LP, sp1, c1, rfl, s1, z1⟩ := open_strs r0
  obtain ⟨LO, sp2, c2, rfl, s2, z2⟩ := open_strs r1
  obtain ⟨LS, sp3, c3, sv, rfl, s3, z3⟩ := open_scripts r2 hw2
  refine ⟨LP, LO, LS, ⟨sp1, c1, sp2, c2, sp3, c3, sv, ?_, s1, s2, s3⟩, z1, z2, z3⟩
  have hcs : (Value.agg cs).cells = cs := rfl
  rw [hcs] at hl g0 g1 g2
  obtain ⟨l⟩ := cs
  congr 2
  match l, hl with
  | [a, b, c], _ =>
    simp at g0 g1 g2
    rw [g0, g1, g2]

theorem open_acts {n : Nat} {v : Value} {y : DataW H × List MemPlace} (h : DataW.trod enc Try.prog w base spare held n 26 [v] = some y) : ∃ L, ActsArg w v L := by
  obtain ⟨l, sp, cap, hv, hs, _⟩ := open_rows acCells (fun _ => rfl) (by decide) Try.underlying26 cells35 open_ac h
  exact ⟨l, sp, cap, hv, hs⟩
end

end Go.Proofs.Ytlkamfmepjddkaa
