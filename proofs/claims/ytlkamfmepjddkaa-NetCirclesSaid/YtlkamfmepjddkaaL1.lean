/- Plain law: the replies of one mirror, whatever the others do. -/
import Derived.Test.YtlkamfmepjddkaaN5
set_option linter.unusedSimpArgs false
set_option linter.unusedVariables false
namespace Go.Proofs.Ytlkamfmepjddkaa
open Go.RowKit Go.Lib

theorem lessR_asymm {a b : Rp} (h : lessR a b = true) : lessR b a = false := by
  unfold lessR at *
  simp only [Bool.or_eq_true, Bool.and_eq_true, decide_eq_true_eq] at h
  rw [Bool.eq_false_iff]
  simp only [ne_eq, Bool.or_eq_true, Bool.and_eq_true, decide_eq_true_eq]
  omega

/-- The place that kIdx finds is the only one. -/
theorem kIdx_unique {l : List Rp} {i : Nat} {m : Rp} (hm : l[i]? = some m) (h1 : ∀ (j : Nat) x, j < i → l[j]? = some x → lessR m x = true) (h2 : ∀ x ∈ l, lessR x m = false) : kIdx l = i := by
  have h0 : l ≠ [] := by rintro rfl; simp at hm
  obtain ⟨m', hm', hk, hf, hl⟩ := kIdx_spec l h0
  rcases Nat.lt_trichotomy (kIdx l) i with h | h | h
  · have ha := h1 _ m' h hm'
    rw [hl m (List.mem_of_getElem? hm)] at ha
    cases ha
  · exact h
  · have ha := (hf i m h hm).2
    rw [h2 m' (List.mem_of_getElem? hm')] at ha
    cases ha

/-- The replies in the order in which they come. -/
def drainN : Nat → List Rp → List Rp
  | 0, _ => []
  | n + 1, l =>
    match l[kIdx l]? with
    | none => []
    | some r => r :: drainN n (l.eraseIdx (kIdx l))
def drain (l : List Rp) : List Rp := drainN l.length l

theorem drain_nil : drain [] = [] := rfl
theorem drain_step {l : List Rp} {r : Rp} (h : l[kIdx l]? = some r) : drain l = r :: drain (l.eraseIdx (kIdx l)) := by
  have hlt := (List.getElem?_eq_some_iff.1 h).1
  obtain ⟨n, hn⟩ : ∃ n, l.length = n + 1 := ⟨l.length - 1, by omega⟩
  have he : (l.eraseIdx (kIdx l)).length = n := by rw [List.length_eraseIdx, if_pos hlt, hn]; rfl
  unfold drain
  rw [he, hn, drainN, h]
theorem drain_empty {l : List Rp} (h : drain l = []) : l = [] := by
  by_cases h0 : l = []
  · exact h0
  · obtain ⟨m, hm, _⟩ := kIdx_spec l h0
    rw [drain_step hm] at h
    cases h
theorem drain_cons {l : List Rp} {r : Rp} {t : List Rp} (h : drain l = r :: t) : l[kIdx l]? = some r ∧ drain (l.eraseIdx (kIdx l)) = t := by
  by_cases h0 : l = []
  · subst h0; cases h
  · obtain ⟨m, hm, _⟩ := kIdx_spec l h0
    rw [drain_step hm] at h
    cases h
    exact ⟨hm, rfl⟩

def ofMir (k : Int) (l : List Rp) : List Rp := l.filter fun r => r.mir == k

theorem filter_at {α : Type} (p : α → Bool) : ∀ (l : List α) (i : Nat) (x : α), l[i]? = some x → p x = true →
    ∃ j, (l.filter p)[j]? = some x ∧ (l.eraseIdx i).filter p = (l.filter p).eraseIdx j ∧ (∀ (q : Nat) y, q < j → (l.filter p)[q]? = some y → ∃ q', q' < i ∧ l[q']? = some y)
  | [], _, _, h, _ => by simp at h
  | y :: l, 0, x, h, hp => by
    simp at h
    subst h
    exact ⟨0, by simp [List.filter_cons, hp], by simp [List.filter_cons, hp], fun q _ hq => absurd hq (Nat.not_lt_zero _)⟩
  | y :: l, i + 1, x, h, hp => by
    obtain ⟨j, h1, h2, h3⟩ := filter_at p l i x (by simpa using h) hp
    by_cases hy : p y = true
    · refine ⟨j + 1, by simp [List.filter_cons, hy, h1], by simp [List.filter_cons, hy, h2], fun q z hq hz => ?_⟩
      cases q with
      | zero =>
        simp [List.filter_cons, hy] at hz
        subst hz
        exact ⟨0, by omega, by simp⟩
      | succ q =>
        simp [List.filter_cons, hy] at hz
        obtain ⟨q', hq', hz'⟩ := h3 q z (by omega) hz
        exact ⟨q' + 1, by omega, by simpa using hz'⟩
    · refine ⟨j, by simp [List.filter_cons, hy, h1], by simp [List.filter_cons, hy, h2], fun q z hq hz => ?_⟩
      simp [List.filter_cons, hy] at hz
      obtain ⟨q', hq', hz'⟩ := h3 q z hq hz
      exact ⟨q' + 1, by omega, by simpa using hz'⟩
theorem filter_out {α : Type} (p : α → Bool) : ∀ (l : List α) (i : Nat) (x : α), l[i]? = some x → p x = false → (l.eraseIdx i).filter p = l.filter p
  | [], _, _, h, _ => by simp at h
  | y :: l, 0, x, h, hp => by
    simp at h
    subst h
    simp [List.filter_cons, hp]
  | y :: l, i + 1, x, h, hp => by
    have := filter_out p l i x (by simpa using h) hp
    simp only [List.eraseIdx_cons_succ, List.filter_cons, this]

/-- One reply out of all: of the mirror, or not. -/
theorem drain_in {k : Int} {l : List Rp} {r : Rp} (h : l[kIdx l]? = some r) (hk : r.mir = k) : drain (ofMir k l) = r :: drain (ofMir k (l.eraseIdx (kIdx l))) := by
  have h0 : l ≠ [] := by rintro rfl; simp at h
  obtain ⟨m, hm, _, hf, hl⟩ := kIdx_spec l h0
  rw [h] at hm
  cases hm
  obtain ⟨j, h1, h2, h3⟩ := filter_at (fun r : Rp => r.mir == k) l (kIdx l) r h (by simpa using hk)
  have hj : kIdx (ofMir k l) = j := kIdx_unique h1 (fun q y hq hy => by
    obtain ⟨q', hq', hy'⟩ := h3 q y hq hy
    exact (hf q' y hq' hy').2) (fun y hy => hl y (List.mem_filter.1 hy).1)
  unfold ofMir at *
  rw [drain_step (by rw [hj]; exact h1), h2, hj]
theorem drain_out {k : Int} {l : List Rp} {r : Rp} (h : l[kIdx l]? = some r) (hk : r.mir ≠ k) : ofMir k (l.eraseIdx (kIdx l)) = ofMir k l :=
  filter_out _ l (kIdx l) r h (by simpa using hk)

/-- Two lists alike but for the numbers. -/
structure Corr (k : Int) (F B : List Rp) : Prop where
  len : F.length = B.length
  each : ∀ (i : Nat) f b, F[i]? = some f → B[i]? = some b → f.at' = b.at' ∧ f.b = b.b ∧ b.mir = k
  less : ∀ (i j : Nat) f g b c, F[i]? = some f → F[j]? = some g → B[i]? = some b → B[j]? = some c → lessR f g = lessR b c

theorem Corr.at {k : Int} {F B : List Rp} (h : Corr k F B) {i : Nat} {f : Rp} (hf : F[i]? = some f) : ∃ b, B[i]? = some b :=
  ⟨_, List.getElem?_eq_getElem (by rw [← h.len]; exact (List.getElem?_eq_some_iff.1 hf).1)⟩
theorem Corr.after {k : Int} {F B : List Rp} (h : Corr k F B) : ∀ i, kAfter F i = kAfter B i := by
  intro i
  induction i with
  | zero => rfl
  | succ i ih =>
    unfold kAfter
    rw [ih]
    cases hx : F[i]? with
    | none =>
      have : B[i]? = none := by rw [List.getElem?_eq_none_iff] at hx ⊢; rw [← h.len]; exact hx
      rw [this]
    | some x =>
      obtain ⟨b, hb⟩ := h.at hx
      rw [hb]
      cases hm : F[kAfter B i]? with
      | none =>
        have : B[kAfter B i]? = none := by rw [List.getElem?_eq_none_iff] at hm ⊢; rw [← h.len]; exact hm
        rw [this]
      | some m =>
        obtain ⟨c, hc⟩ := h.at hm
        rw [hc]
        simp only [h.less i (kAfter B i) x m b c hx hm hb hc]
theorem Corr.kIdx {k : Int} {F B : List Rp} (h : Corr k F B) : kIdx F = kIdx B := by
  unfold Go.Proofs.Ytlkamfmepjddkaa.kIdx
  rw [h.after, h.len]
theorem Corr.erase {k : Int} {F B : List Rp} (h : Corr k F B) (q : Nat) : Corr k (F.eraseIdx q) (B.eraseIdx q) := by
  have key : ∀ (l : List Rp) (i : Nat), (l.eraseIdx q)[i]? = if i < q then l[i]? else l[i + 1]? := fun l i => by rw [List.getElem?_eraseIdx]
  refine ⟨by rw [List.length_eraseIdx, List.length_eraseIdx, h.len], fun i f b hf hb => ?_, fun i j f g b c hf hg hb hc => ?_⟩
  · rw [key] at hf hb
    split at hf <;> rename_i hq
    · rw [if_pos hq] at hb
      exact h.each i f b hf hb
    · rw [if_neg hq] at hb
      exact h.each (i + 1) f b hf hb
  · rw [key] at hf hg hb hc
    by_cases h1 : i < q <;> by_cases h2 : j < q
    · rw [if_pos h1] at hf hb; rw [if_pos h2] at hg hc; exact h.less i j f g b c hf hg hb hc
    · rw [if_pos h1] at hf hb; rw [if_neg h2] at hg hc; exact h.less i (j + 1) f g b c hf hg hb hc
    · rw [if_neg h1] at hf hb; rw [if_pos h2] at hg hc; exact h.less (i + 1) j f g b c hf hg hb hc
    · rw [if_neg h1] at hf hb; rw [if_neg h2] at hg hc; exact h.less (i + 1) (j + 1) f g b c hf hg hb hc

theorem lessR_new {f g : Rp} (hn : f.num < g.num) : lessR f g = decide (f.at' ≤ g.at') ∧ lessR g f = decide (g.at' < f.at') := by
  unfold lessR
  constructor <;> rw [Bool.eq_iff_iff] <;> simp only [Bool.or_eq_true, Bool.and_eq_true, decide_eq_true_eq] <;> omega
theorem lessR_eqn {f g : Rp} (hn : f.num = g.num) : lessR f g = decide (f.at' < g.at') := by
  unfold lessR
  rw [Bool.eq_iff_iff]
  simp only [Bool.or_eq_true, Bool.and_eq_true, decide_eq_true_eq]
  omega

/-- Replies of one request more, on both sides. -/
theorem Corr.append {k : Int} {F B : List Rp} (h : Corr k F B) (nA nB : Int) (hA : ∀ r ∈ F, r.num < nA) (hB : ∀ r ∈ B, r.num < nB) (t : Int) (bs : List ByteArray) :
    Corr k (F ++ bs.map fun b => ⟨nA, k, t, b⟩) (B ++ bs.map fun b => ⟨nB, k, t, b⟩) := by
  have inF : ∀ (i : Nat) f, (F ++ bs.map fun b => (⟨nA, k, t, b⟩ : Rp))[i]? = some f → (i < F.length ∧ F[i]? = some f) ∨ (F.length ≤ i ∧ ∃ b, bs[i - F.length]? = some b ∧ f = ⟨nA, k, t, b⟩) := fun i f hf => by
    by_cases hi : i < F.length
    · rw [List.getElem?_append_left hi] at hf; exact .inl ⟨hi, hf⟩
    · rw [List.getElem?_append_right (by omega), List.getElem?_map] at hf
      obtain ⟨b, hb, rfl⟩ := Option.map_eq_some_iff.1 hf
      exact .inr ⟨by omega, b, hb, rfl⟩
  have inB : ∀ (i : Nat) f, (B ++ bs.map fun b => (⟨nB, k, t, b⟩ : Rp))[i]? = some f → (i < F.length ∧ B[i]? = some f) ∨ (F.length ≤ i ∧ ∃ b, bs[i - F.length]? = some b ∧ f = ⟨nB, k, t, b⟩) := fun i f hf => by
    rw [h.len]
    by_cases hi : i < B.length
    · rw [List.getElem?_append_left hi] at hf; exact .inl ⟨hi, hf⟩
    · rw [List.getElem?_append_right (by omega), List.getElem?_map] at hf
      obtain ⟨b, hb, rfl⟩ := Option.map_eq_some_iff.1 hf
      exact .inr ⟨by omega, b, hb, rfl⟩
  refine ⟨by simp [h.len], fun i f b hf hb => ?_, fun i j f g b c hf hg hb hc => ?_⟩
  · rcases inF i f hf with ⟨h1, hf⟩ | ⟨h1, x, hx, rfl⟩ <;> rcases inB i b hb with ⟨h2, hb⟩ | ⟨h2, y, hy, rfl⟩
    · exact h.each i f b hf hb
    · omega
    · omega
    · rw [hx] at hy; cases hy; exact ⟨rfl, rfl, rfl⟩
  · rcases inF i f hf with ⟨h1, hf⟩ | ⟨h1, x, hx, rfl⟩ <;> rcases inB i b hb with ⟨h2, hb⟩ | ⟨h2, y, hy, rfl⟩ <;>
      rcases inF j g hg with ⟨h3, hg⟩ | ⟨h3, x', hx', rfl⟩ <;> rcases inB j c hc with ⟨h4, hc⟩ | ⟨h4, y', hy', rfl⟩ <;> try omega
    · exact h.less i j f g b c hf hg hb hc
    · rw [(lessR_new (f := f) (g := ⟨nA, k, t, x'⟩) (hA f (List.mem_of_getElem? hf))).1, (lessR_new (f := b) (g := ⟨nB, k, t, y'⟩) (hB b (List.mem_of_getElem? hb))).1, (h.each i f b hf hb).1]
    · rw [(lessR_new (f := g) (g := ⟨nA, k, t, x⟩) (hA g (List.mem_of_getElem? hg))).2, (lessR_new (f := c) (g := ⟨nB, k, t, y⟩) (hB c (List.mem_of_getElem? hc))).2, (h.each j g c hg hc).1]
    · rw [lessR_eqn (f := ⟨nA, k, t, x⟩) (g := ⟨nA, k, t, x'⟩) rfl, lessR_eqn (f := ⟨nB, k, t, y⟩) (g := ⟨nB, k, t, y'⟩) rfl]

theorem ofMir_append (k : Int) (a b : List Rp) : ofMir k (a ++ b) = ofMir k a ++ ofMir k b := by simp [ofMir]
theorem ofMir_all (k n t : Int) (bs : List ByteArray) : ofMir k (bs.map fun b => (⟨n, k, t, b⟩ : Rp)) = bs.map fun b => ⟨n, k, t, b⟩ := by
  unfold ofMir
  rw [List.filter_eq_self]
  intro r hr
  obtain ⟨b, _, rfl⟩ := List.mem_map.1 hr
  simp
theorem ofMir_none (k m n t : Int) (hm : m ≠ k) (bs : List ByteArray) : ofMir k (bs.map fun b => (⟨n, m, t, b⟩ : Rp)) = [] := by
  unfold ofMir
  rw [List.filter_eq_nil_iff]
  intro r hr
  obtain ⟨b, _, rfl⟩ := List.mem_map.1 hr
  simp [hm]

/-- What holds of both nets between two requests. -/
structure Both (k : Nat) (a b : NS) : Prop where
  pk : a.packets = b.packets
  old : a.old = b.old
  scr : a.scripts = b.scripts
  ask : a.asked.getD k 0 = b.asked.getD k 0
  la : a.asked.length = a.scripts.length
  lb : b.asked.length = b.scripts.length
  na : ∀ r ∈ a.replies, r.num ≤ (a.n : Int)
  nb : ∀ r ∈ b.replies, r.num ≤ (b.n : Int)
  co : Corr k (ofMir k a.replies) b.replies

theorem askS_some {s : NS} {m : Nat} {l : List Bh} (h : s.scripts[m]? = some l) (now : Int) (hs : List UInt8) :
    askS s now m hs = { s with n := s.n + 1, asked := s.asked.set m (s.asked.getD m 0 + 1), replies := s.replies ++ (bytesS s.packets s.old (behS l (s.asked.getD m 0)) hs).map fun b => ⟨s.n + 1, m, now + max (behS l (s.asked.getD m 0)).d 0, b⟩ } := by
  unfold askS
  rw [if_neg (by omega)]
  simp only [Int.toNat_natCast, h]

theorem Both.other {k m : Nat} {a b : NS} (h : Both k a b) (hm : m ≠ k) (hlt : m < a.scripts.length) (now : Int) (hs : List UInt8) : Both k (askS a now m hs) b := by
  rw [askS_some (List.getElem?_eq_getElem hlt)]
  refine ⟨h.pk, h.old, h.scr, ?_, by simp only [List.length_set]; exact h.la, h.lb, fun r hr => ?_, h.nb, ?_⟩
  · rw [← h.ask]
    simp only [List.getD, List.getElem?_set_ne hm]
  · rcases List.mem_append.1 hr with hr | hr
    · have := h.na r hr; simp only; omega
    · obtain ⟨x, _, rfl⟩ := List.mem_map.1 hr
      simp
  · have e := ofMir_none k m (a.n + 1) (now + max (behS a.scripts[m] (a.asked.getD m 0)).d 0) (by omega) (bytesS a.packets a.old (behS a.scripts[m] (a.asked.getD m 0)) hs)
    show Corr k (ofMir k (_ ++ _)) _
    rw [ofMir_append, e, List.append_nil]
    exact h.co
theorem Both.both {k : Nat} {a b : NS} (h : Both k a b) (hlt : k < a.scripts.length) (now : Int) (hs : List UInt8) : Both k (askS a now k hs) (askS b now k hs) := by
  have hltb : k < b.scripts.length := by rw [← h.scr]; exact hlt
  have hl : b.scripts[k]? = some a.scripts[k] := by rw [← h.scr]; exact List.getElem?_eq_getElem hlt
  rw [askS_some (List.getElem?_eq_getElem hlt), askS_some hl, ← h.ask, ← h.pk, ← h.old]
  refine ⟨rfl, rfl, h.scr, ?_, by simp only [List.length_set]; exact h.la, by simp only [List.length_set]; exact h.lb, fun r hr => ?_, fun r hr => ?_, ?_⟩
  · simp only [List.getD, List.getElem?_set_self (show k < a.asked.length by rw [h.la]; exact hlt), List.getElem?_set_self (show k < b.asked.length by rw [h.lb]; exact hltb)]
  · rcases List.mem_append.1 hr with hr | hr
    · have := h.na r hr; simp only; omega
    · obtain ⟨x, _, rfl⟩ := List.mem_map.1 hr
      simp
  · rcases List.mem_append.1 hr with hr | hr
    · have := h.nb r hr; simp only; omega
    · obtain ⟨x, _, rfl⟩ := List.mem_map.1 hr
      simp
  · show Corr k (ofMir k (_ ++ _)) _
    rw [ofMir_append, ofMir_all]
    exact h.co.append _ _ (fun r hr => by have := h.na r (List.mem_filter.1 hr).1; omega) (fun r hr => by have := h.nb r hr; omega) _ _

end Go.Proofs.Ytlkamfmepjddkaa
