/- Plain laws: numbers of replies; honest mirrors. -/
import Derived.Test.YtlkamfmepjddkaaL1
import Derived.Test.YtlkamfmepjddkaaQ6
set_option linter.unusedSimpArgs false
set_option linter.unusedVariables false
namespace Go.Proofs.Ytlkamfmepjddkaa
open Go.RowKit Go.Lib

/-- Each reply bears the number of a request to its mirror. -/
def NumOk (ms : List Int) (l : List Rp) : Prop := ∀ r ∈ l, ∃ j : Nat, r.num = (j : Int) + 1 ∧ ms[j]? = some r.mir

theorem NumOk.ask {ms : List Int} {s : NS} (h : NumOk ms s.replies) (hn : s.n = ms.length) (now mir : Int) (hs : List UInt8) : NumOk (ms ++ [mir]) (askS s now mir hs).replies := by
  have old : ∀ r ∈ s.replies, ∃ j : Nat, r.num = (j : Int) + 1 ∧ (ms ++ [mir])[j]? = some r.mir := fun r hr => by
    obtain ⟨j, h1, h2⟩ := h r hr
    exact ⟨j, h1, by rw [List.getElem?_append_left (List.getElem?_eq_some_iff.1 h2).1]; exact h2⟩
  unfold askS
  split
  · exact old
  · split
    · exact old
    · intro r hr
      rcases List.mem_append.1 hr with hr | hr
      · exact old r hr
      · obtain ⟨b, _, rfl⟩ := List.mem_map.1 hr
        exact ⟨s.n, rfl, by rw [hn, List.getElem?_append_right (Nat.le_refl _), Nat.sub_self]; rfl⟩
theorem NumOk.next {ms : List Int} {s : NS} (h : NumOk ms s.replies) : NumOk ms (nextS s).replies := fun r hr => h r (List.mem_of_mem_eraseIdx hr)
theorem nextR_mem {s : NS} (h : s.replies ≠ []) : nextR s ∈ s.replies := by
  obtain ⟨m, hm, _⟩ := kIdx_spec s.replies h
  unfold nextR
  rw [hm]
  exact List.mem_of_getElem? hm
theorem nextB_iff (s : NS) : nextB s = true ↔ s.replies ≠ [] := by
  unfold nextB
  cases s.replies <;> simp

/-- The last packet of a hash. -/
def lastS (l : List Pk) (h : List UInt8) : ByteArray := l.foldl (fun acc p => if p.h = h then p.b else acc) emptyS
theorem lastS_snoc (l : List Pk) (p : Pk) (h : List UInt8) : lastS (l ++ [p]) h = if p.h = h then p.b else lastS l h := by simp [lastS]
theorem wantedS_none (l : List Pk) (h : List UInt8) (hn : ∀ q ∈ l, q.h ≠ h) : wantedS l h = emptyS := by
  induction l with
  | nil => rfl
  | cons q l ih => rw [wantedS, if_neg (hn q (by simp)), ih fun x hx => hn x (by simp [hx])]
theorem wantedS_snoc (l : List Pk) (p : Pk) (h : List UInt8) (hne : p.h ≠ h) : wantedS (l ++ [p]) h = wantedS l h := by
  induction l with
  | nil => simp [wantedS, hne]
  | cons q l ih => simp only [List.cons_append, wantedS, ih]
theorem wantedS_last (l : List Pk) (p : Pk) (h : List UInt8) (he : p.h = h) (hn : ∀ q ∈ l, q.h ≠ h) : wantedS (l ++ [p]) h = p.b := by
  induction l with
  | nil => simp [wantedS, he]
  | cons q l ih => simp only [List.cons_append, wantedS, if_neg (hn q (by simp)), ih fun x hx => hn x (by simp [hx])]

theorem hashK_inj {i j : Nat} (hi : i < 8) (hj : j < 8) (h : hashK (UInt8.ofNat (i + 1)) = hashK (UInt8.ofNat (j + 1))) : i = j := by
  have h1 : UInt8.ofNat (i + 1) = UInt8.ofNat (j + 1) := (List.cons.inj h).1
  have h2 := congrArg UInt8.toNat h1
  simp only [UInt8.toNat_ofNat'] at h2
  omega
theorem last_wanted (L : List ByteArray) (h : List UInt8) : ∀ n, n ≤ 8 → lastS (pkN L n) h = wantedS (pkN L n) h := by
  intro n
  induction n with
  | zero => intro _; rfl
  | succ n ih =>
    intro hn
    rw [pkN_succ, lastS_snoc]
    by_cases he : (pkOf L n).h = h
    · rw [if_pos he, wantedS_last _ _ _ he]
      intro q hq
      obtain ⟨i, hi, rfl⟩ := List.mem_map.1 hq
      have hin : i < n := List.mem_range.1 hi
      intro e
      have := hashK_inj (i := i) (j := n) (by omega) (by omega) (e.trans he.symm)
      omega
    · rw [if_neg he, wantedS_snoc _ _ _ he]
      exact ih (by omega)

/-- The scripts of honest mirrors. -/
def honS (d : Int) : List (List Bh) := [[], [⟨1, d, 0⟩]]
def honD (d : Int) (m : Nat) : Int := if m = 0 then 1 else d
def honR (s : NS) (d : Int) (m : Nat) (h : List UInt8) : Rp := ⟨s.n + 1, m, 100 + max (honD d m) 0, wantedS s.packets h⟩
theorem hon_ask {s : NS} {d : Int} (hs : s.scripts = honS d) (hr : s.replies = []) (m : Nat) (hm : m < 2) (h : List UInt8) :
    (askS s 100 m h).replies = [honR s d m h] ∧ (askS s 100 m h).packets = s.packets ∧ (askS s 100 m h).scripts = honS d ∧ (askS s 100 m h).n = s.n + 1 := by
  have hl : ∃ l, s.scripts[m]? = some l ∧ ∀ a, behS l a = ⟨1, honD d m, 0⟩ := by
    rw [hs]
    have h2 : m = 0 ∨ m = 1 := by omega
    rcases h2 with rfl | rfl
    · exact ⟨[], rfl, fun a => rfl⟩
    · refine ⟨[⟨1, d, 0⟩], rfl, fun a => ?_⟩
      unfold behS
      simp [Nat.mod_one, honD]
  obtain ⟨l, hl, hb⟩ := hl
  rw [askS_some hl, hb]
  refine ⟨?_, rfl, hs, rfl⟩
  show s.replies ++ _ = _
  rw [hr]
  rfl
theorem one_next {s : NS} {r : Rp} (h : s.replies = [r]) : nextR s = r ∧ nextB s = true ∧ (nextS s).replies = [] := by
  have hk : kIdx [r] = 0 := by
    unfold kIdx kAfter
    simp [kAfter, lessR]
  unfold nextR nextB nextS
  rw [h, hk]
  exact ⟨rfl, rfl, rfl⟩

end Go.Proofs.Ytlkamfmepjddkaa
