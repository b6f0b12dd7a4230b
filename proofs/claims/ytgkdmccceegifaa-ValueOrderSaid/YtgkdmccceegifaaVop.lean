/- ValueOrder's plain law: what Less, Equal and the others come to for two values of one Kind. No Go here. -/
import Derived.Test.YtgkdmccceegifaaVf
namespace Go.Proofs.Ytgkdmccceegifaa.LawValueOrder
open Go.RowKit Go.Proofs.Ytgkdmccceegifaa.Vm Go.Proofs.Ytgkdmccceegifaa.Vq Go.Proofs.Ytgkdmccceegifaa.Vf
set_option linter.unusedSimpArgs false
set_option linter.unusedVariables false
def Fit (a b : V) : Prop := a.k = b.k ∧ (a.k = 1 ∨ a.k = 3)
theorem fit_of {a b : V} (h : fits 9 a b = true) : Fit a b := by
  have h2 : (ints a b || texts a b) = true := by simpa [fits] using h
  unfold ints texts at h2
  simp only [Bool.or_eq_true, Bool.and_eq_true, beq_iff_eq] at h2
  unfold Fit
  omega
theorem fits_of {a b : V} (h : Fit a b) : (ints a b || texts a b) = true := by
  unfold Fit at h
  unfold ints texts
  simp only [Bool.or_eq_true, Bool.and_eq_true, beq_iff_eq]
  omega
theorem two9 {a b : V} (h : Fit a b) : two 9 a b = (truth (lessB a b), 0) := by
  have hf : fits 9 a b = true := by simpa [fits] using fits_of h
  rw [← (order_less a b h.1).1]
  unfold two
  rw [if_neg (by omega), if_neg (by rw [hf]; decide), if_pos rfl]
theorem two10 {a b : V} (h : Fit a b) : two 10 a b = (truth (!lessB b a), 0) := by
  have hf : fits 10 a b = true := by simpa [fits] using fits_of h
  rw [← (order_less a b h.1).2.1]
  unfold two
  rw [if_neg (by omega), if_neg (by rw [hf]; decide), if_neg (by omega), if_pos rfl]
theorem eq_less {a b : V} (h : Fit a b) : equal a b = (!lessB a b && !lessB b a) := by
  rw [← (order_less a b h.1).2.2]
  unfold equal
  rw [if_neg (by have := h.2; omega)]
theorem two11 {a b : V} (h : Fit a b) : two 11 a b = (truth (!lessB a b && !lessB b a), 0) := by
  have hf : fits 11 a b = true := by simp [fits, fits_of h]
  rw [← eq_less h]
  unfold two
  rw [if_neg (by omega), if_neg (by rw [hf]; decide), if_neg (by omega), if_neg (by omega), if_pos rfl]
theorem two12 {a b : V} (h : Fit a b) : two 12 a b = (truth (!(!lessB a b && !lessB b a)), 0) := by
  have hf : fits 12 a b = true := by simp [fits, fits_of h]
  rw [← eq_less h]
  unfold two
  rw [if_neg (by omega), if_neg (by rw [hf]; decide), if_neg (by omega), if_neg (by omega), if_neg (by omega), if_pos rfl]
theorem less_not {a b : V} (h : Fit a b) (hl : lessB a b = true) : lessB b a = false := by
  unfold lessB at *
  by_cases hk : a.k = 3
  · have hk2 : b.k = 3 := by have := h.1; omega
    rw [if_pos hk] at hl
    rw [if_pos hk2]
    rcases cmp_less a.t.data.toList b.t.data.toList with ⟨_, _, e3, _, _⟩ | ⟨_, _, e3⟩ | ⟨_, e2, _, _, _⟩
    · exact e3
    · rw [e3] at hl; cases hl
    · rw [e2] at hl; cases hl
  · have hk2 : b.k ≠ 3 := by have := h.1; omega
    rw [if_neg hk, decide_eq_true_eq] at hl
    rw [if_neg hk2, decide_eq_false_iff_not]
    omega
theorem less_on {a b c : V} (h : Fit a b) (h2 : Fit b c) (h3 : lessB a b = true) (h4 : lessB b c = true) : lessB a c = true := by
  unfold lessB at *
  by_cases hk : a.k = 3
  · have hk2 : b.k = 3 := by have := h.1; omega
    rw [if_pos hk] at *
    rw [if_pos hk2] at h4
    exact less_trans _ _ _ h3 h4
  · have hk2 : b.k ≠ 3 := by have := h.1; omega
    rw [if_neg hk, decide_eq_true_eq] at *
    rw [if_neg hk2, decide_eq_true_eq] at h4
    omega
theorem unfit9 {a b : V} (h : ¬ fits 9 a b = true) : two 9 a b = (V.zero, 23) := by
  unfold two
  rw [if_neg (by omega), if_pos (by simpa using h)]
/-- The third value. -/
theorem third {a b c : V} (L : Bool) (h : Fit a b) (hL : lessB a b = L) : ∃ (v6 v7 : V) (e6 e7 : Int), two 9 b c = (v6, e6) ∧ two 9 a c = (v7, e7) ∧ (e6 ≠ 0 ∨ (e6 = 0 ∧ ∃ p q : Bool, v6 = truth p ∧ v7 = truth q ∧ (L = true → p = true → q = true))) := by
  by_cases hf : fits 9 b c = true
  · have h2 := fit_of hf
    have h3 : Fit a c := ⟨h.1.trans h2.1, h.2⟩
    exact ⟨_, _, _, _, two9 h2, two9 h3, .inr ⟨rfl, _, _, rfl, rfl, fun e1 e2 => less_on h h2 (hL.trans e1) e2⟩⟩
  · exact ⟨_, _, _, _, unfit9 hf, rfl, .inl (by decide)⟩
end Go.Proofs.Ytgkdmccceegifaa.LawValueOrder
