/- The least reply: where it stands first. -/
import Derived.Test.YtlkamfmepjddkaaN1
set_option linter.unusedSimpArgs false
set_option linter.unusedVariables false
namespace Go.Proofs.Ytlkamfmepjddkaa
open Go.RowKit Go.Lib

theorem lessR_trans {a b c : Rp} (h1 : lessR a b = true) (h2 : lessR c b = false) : lessR a c = true := by
  unfold lessR at *
  simp only [Bool.or_eq_true, Bool.and_eq_true, decide_eq_true_eq, Bool.or_eq_false_iff, Bool.and_eq_false_iff, decide_eq_false_iff_not] at *
  omega
theorem lessR_trans2 {a b c : Rp} (h1 : lessR a b = true) (h2 : lessR b c = true) : lessR a c = true := by
  unfold lessR at *
  simp only [Bool.or_eq_true, Bool.and_eq_true, decide_eq_true_eq] at *
  omega
theorem lessR_irr (a : Rp) : lessR a a = false := by
  unfold lessR
  simp

theorem kAfter_spec (l : List Rp) (h0 : l ≠ []) : ∀ i, i ≤ l.length → ∃ m, l[kAfter l i]? = some m ∧ (kAfter l i < i ∨ kAfter l i = 0) ∧ (∀ (j : Nat) x, j < kAfter l i → l[j]? = some x → lessR m x = true) ∧ ∀ (j : Nat) x, j < i → l[j]? = some x → lessR x m = false
  | 0, _ => ⟨l[0]'(List.length_pos_iff.2 h0), List.getElem?_eq_getElem _, .inr rfl, fun j x hj _ => by simp [kAfter] at hj, fun j x hj _ => by omega⟩
  | i + 1, hi => by
    obtain ⟨m, hm, h1, h2, h3⟩ := kAfter_spec l h0 i (by omega)
    have hx : l[i]? = some (l[i]'(by omega)) := List.getElem?_eq_getElem _
    obtain ⟨x, hxx⟩ : ∃ x, x = l[i]'(by omega) := ⟨_, rfl⟩
    rw [← hxx] at hx
    have hk : kAfter l (i + 1) = if lessR x m then i else kAfter l i := by rw [kAfter, hx, hm]
    by_cases hl : lessR x m = true
    · rw [if_pos hl] at hk
      rw [hk]
      refine ⟨x, hx, .inl (by omega), fun j y hj hy => lessR_trans hl (h3 j y hj hy), fun j y hj hy => ?_⟩
      by_cases hji : j = i
      · subst hji
        rw [hx] at hy
        cases hy
        exact lessR_irr x
      · have := h3 j y (by omega) hy
        have h4 := lessR_trans hl this
        unfold lessR at h4 ⊢
        simp only [Bool.or_eq_true, Bool.and_eq_true, decide_eq_true_eq, Bool.or_eq_false_iff, Bool.and_eq_false_iff, decide_eq_false_iff_not] at *
        omega
    · have hl2 : lessR x m = false := by simpa using hl
      rw [if_neg hl] at hk
      rw [hk]
      refine ⟨m, hm, ?_, h2, fun j y hj hy => ?_⟩
      · rcases h1 with h1 | h1
        · exact .inl (by omega)
        · exact .inr h1
      · by_cases hji : j = i
        · subst hji
          rw [hx] at hy
          cases hy
          exact hl2
        · exact h3 j y (by omega) hy

/-- The first place of the least reply. -/
theorem kIdx_spec (l : List Rp) (h0 : l ≠ []) : ∃ m, l[kIdx l]? = some m ∧ kIdx l < l.length ∧ (∀ (j : Nat) x, j < kIdx l → l[j]? = some x → x ≠ m ∧ lessR m x = true) ∧ ∀ x ∈ l, lessR x m = false := by
  obtain ⟨m, hm, _, h2, h3⟩ := kAfter_spec l h0 l.length (Nat.le_refl _)
  refine ⟨m, hm, (List.getElem?_eq_some_iff.1 hm).1, fun j x hj hx => ⟨fun e => ?_, h2 j x hj hx⟩, fun x hx => ?_⟩
  · subst e
    have := h2 j x hj hx
    rw [lessR_irr] at this
    cases this
  · obtain ⟨j, hj⟩ := List.getElem?_of_mem hx
    exact h3 j x (List.getElem?_eq_some_iff.1 hj).1 hj

end Go.Proofs.Ytlkamfmepjddkaa
