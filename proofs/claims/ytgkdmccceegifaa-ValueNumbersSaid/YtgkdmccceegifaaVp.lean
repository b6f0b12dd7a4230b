/- What value.numbers comes to is what the reference tells of a product, a sum, a difference. No condition but the numbers' own range. -/
import Derived.Test.YtgkdmccceegifaaVg
namespace Go.Proofs.Ytgkdmccceegifaa.Vf
open Go.RowKit Go.Proofs.Ytgkdmccceegifaa.Vm Go.Proofs.Ytgkdmccceegifaa.Va Go.Proofs.Ytgkdmccceegifaa.Vc Go.Proofs.Ytgkdmccceegifaa.Vt Go.Proofs.Ytgkdmccceegifaa.Vq
set_option linter.unusedSimpArgs false
theorem num5 (a b : Int) (ha : R a) (hb : R b) : numbers 5 a b = if R (a * b) then (num (a * b), 0) else (V.zero, 20) := by
  obtain ⟨e1, e2⟩ := mul_ok ha hb
  unfold numbers opn
  simp only [show ¬ ((5 : Int) = 6 ∨ (5 : Int) = 7) by omega, and_false, if_false, if_true, e1]
  by_cases h : R (a * b)
  · simp [h, e2 h]
  · simp [h]
theorem num8 (a b : Int) (ha : R a) (hb : R b) : numbers 8 a b = if R (a + b) then (num (a + b), 0) else (V.zero, 20) := by
  have e : (decide (wrap64 (a + b) < a) == decide (b < 0)) = decide (R (a + b)) := by
    rw [Bool.eq_iff_iff, beq_iff_eq, decide_eq_decide, decide_eq_true_eq]
    unfold R at *
    unfold wrap64
    omega
  unfold numbers opn
  simp only [show ¬ ((8 : Int) = 6 ∨ (8 : Int) = 7) by omega, and_false, if_false, show ¬ (8 : Int) = 5 by omega, show ¬ (8 : Int) = 6 by omega, show ¬ (8 : Int) = 7 by omega, if_true, e]
  by_cases h : R (a + b)
  · simp [h, wrap_of h]
  · simp [h]
theorem num15 (a b : Int) (ha : R a) (hb : R b) : numbers 15 a b = if R (a - b) then (num (a - b), 0) else (V.zero, 20) := by
  have e : (decide (a < wrap64 (a - b)) == decide (b < 0)) = decide (R (a - b)) := by
    rw [Bool.eq_iff_iff, beq_iff_eq, decide_eq_decide, decide_eq_true_eq]
    unfold R at *
    unfold wrap64
    omega
  unfold numbers opn
  simp only [show ¬ ((15 : Int) = 6 ∨ (15 : Int) = 7) by omega, and_false, if_false, show ¬ (15 : Int) = 5 by omega, show ¬ (15 : Int) = 6 by omega, show ¬ (15 : Int) = 7 by omega, show ¬ (15 : Int) = 8 by omega, e]
  by_cases h : R (a - b)
  · simp [h, wrap_of h]
  · simp [h]

theorem told5 (a b : Int) (ha : R a) (hb : R b) : numbers 5 a b = told (rmul a b).1 (rmul a b).2 := by
  rw [num5 a b ha hb]
  unfold told rmul
  split <;> simp
theorem told8 (a b : Int) (ha : R a) (hb : R b) : numbers 8 a b = told (radd a b).1 (radd a b).2 := by
  rw [num8 a b ha hb]
  unfold told radd
  split <;> simp
theorem told15 (a b : Int) (ha : R a) (hb : R b) : numbers 15 a b = told (rsub a b).1 (rsub a b).2 := by
  rw [num15 a b ha hb]
  unfold told rsub
  split <;> simp
theorem ryesR (v : V) (r : Bool) (h : yes v = r) (w : World) : Calls Try.prog 25 #[.agg #[.int .u8 v.k, .int .i64 v.n, .string v.t]] w fun e w' => e = .returned (.bool r) ∧ Below w.heap.size w w' := by
  subst h
  exact ryesC v w
end Go.Proofs.Ytgkdmccceegifaa.Vf
