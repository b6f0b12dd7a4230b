/- ValueNumbers' plain law: what the five operators come to on two numbers, told apart as the law asks. No Go here. Conditions: the numbers' own range. -/
import Derived.Test.YtgkdmccceegifaaVp
namespace Go.Proofs.Ytgkdmccceegifaa.Vnb
open Go.RowKit Go.Proofs.Ytgkdmccceegifaa.Vm Go.Proofs.Ytgkdmccceegifaa.Vq Go.Proofs.Ytgkdmccceegifaa.Vf
set_option linter.unusedVariables false
set_option linter.unusedSimpArgs false
theorem two8 (a b : Int) : two 8 (num a) (num b) = numbers 8 a b := by simp [two, fits, ints, num, texts]
theorem two15 (a b : Int) : two 15 (num a) (num b) = numbers 15 a b := by simp [two, fits, ints, num, texts]
theorem two5 (a b : Int) : two 5 (num a) (num b) = numbers 5 a b := by simp [two, fits, ints, num, texts]
theorem two6 (a b : Int) : two 6 (num a) (num b) = numbers 6 a b := by simp [two, fits, ints, num, texts]
theorem two7 (a b : Int) : two 7 (num a) (num b) = numbers 7 a b := by simp [two, fits, ints, num, texts]
theorem w64 (x : Int) : IntKind.i64.wrap x = wrap64 x := by rw [IntKind.wrap_i64]; unfold wrap64; omega
/-- A sum: its two ways. -/
theorem sum_ways {n m : Int} (hn : R n) (hm : R m) : ∃ s, IntKind.i64.wrap (n + m) = s ∧
    ((two 8 (num n) (num m) = (num s, 0) ∧ (n < 0 ∧ 0 ≤ m ∨ 0 ≤ n ∧ m < 0 ∨ n < 0 ∧ m < 0 ∧ s < 0 ∨ 0 ≤ n ∧ 0 ≤ m ∧ 0 ≤ s)) ∨
     (two 8 (num n) (num m) = (V.zero, 20) ∧ (n < 0 ∧ m < 0 ∧ 0 ≤ s ∨ 0 ≤ n ∧ 0 ≤ m ∧ s < 0))) := by
  refine ⟨_, rfl, ?_⟩
  rw [two8, num8 n m hn hm, w64]
  by_cases h : R (n + m)
  · left
    rw [if_pos h, wrap_of h]
    exact ⟨rfl, by unfold R at *; omega⟩
  · right
    rw [if_neg h]
    exact ⟨rfl, by unfold R at *; unfold wrap64; omega⟩
/-- A difference: its two ways. -/
theorem dif_ways {n m : Int} (hn : R n) (hm : R m) : ∃ s, IntKind.i64.wrap (n - m) = s ∧
    ((two 15 (num n) (num m) = (num s, 0) ∧ (n < 0 ∧ m < 0 ∨ 0 ≤ n ∧ 0 ≤ m ∨ n < 0 ∧ 0 ≤ m ∧ s < 0 ∨ 0 ≤ n ∧ m < 0 ∧ 0 ≤ s)) ∨
     (two 15 (num n) (num m) = (V.zero, 20) ∧ (n < 0 ∧ 0 ≤ m ∧ 0 ≤ s ∨ 0 ≤ n ∧ m < 0 ∧ s < 0))) := by
  refine ⟨_, rfl, ?_⟩
  rw [two15, num15 n m hn hm, w64]
  by_cases h : R (n - m)
  · left
    rw [if_pos h, wrap_of h]
    exact ⟨rfl, by unfold R at *; omega⟩
  · right
    rw [if_neg h]
    exact ⟨rfl, by unfold R at *; unfold wrap64; omega⟩
theorem small_mul {n m : Int} (h1 : -2147483648 < n) (h2 : n < 2147483648) (h3 : -2147483648 < m) (h4 : m < 2147483648) : R (n * m) := by
  have a1 : n.natAbs ≤ 2147483647 := by omega
  have a2 : m.natAbs ≤ 2147483647 := by omega
  have a3 : n.natAbs * m.natAbs ≤ 2147483647 * 2147483647 := Nat.mul_le_mul a1 a2
  have a4 : (n * m).natAbs = n.natAbs * m.natAbs := Int.natAbs_mul n m
  unfold R
  omega
/-- A product: its two ways. -/
theorem pro_ways {n m : Int} (hn : R n) (hm : R m) :
    (∃ p, n * m = p ∧ R p ∧ two 5 (num n) (num m) = (num p, 0) ∧ (m ≠ 0 → p.tdiv m = n ∧ p.tmod m = 0)) ∨
    (two 5 (num n) (num m) = (V.zero, 20) ∧ n ≠ 0 ∧ m ≠ 0 ∧ n ≠ 1 ∧ m ≠ 1 ∧ (n ≤ -2147483648 ∨ 2147483648 ≤ n ∨ m ≤ -2147483648 ∨ 2147483648 ≤ m)) := by
  rw [two5, num5 n m hn hm]
  by_cases h : R (n * m)
  · left
    rw [if_pos h]
    exact ⟨_, rfl, h, rfl, fun hm0 => ⟨Int.mul_tdiv_cancel _ hm0, Int.mul_tmod_left n m⟩⟩
  · right
    rw [if_neg h]
    refine ⟨rfl, ?_, ?_, ?_, ?_, ?_⟩
    · rintro rfl; apply h; rw [Int.zero_mul]; exact ⟨by decide, by decide⟩
    · rintro rfl; apply h; rw [Int.mul_zero]; exact ⟨by decide, by decide⟩
    · rintro rfl; apply h; rw [Int.one_mul]; exact hm
    · rintro rfl; apply h; rw [Int.mul_one]; exact hn
    · by_cases h5 : n ≤ -2147483648 ∨ 2147483648 ≤ n ∨ m ≤ -2147483648 ∨ 2147483648 ≤ m
      · exact h5
      · exact absurd (small_mul (by omega) (by omega) (by omega) (by omega)) h
/-- A quotient and what is left: their three ways. -/
theorem quo_ways {n m : Int} (hn : R n) (hm : R m) :
    (m = 0 ∧ two 6 (num n) (num m) = (V.zero, 21) ∧ two 7 (num n) (num m) = (V.zero, 21)) ∨
    (n = -9223372036854775808 ∧ m = -1 ∧ two 6 (num n) (num m) = (V.zero, 20) ∧ two 7 (num n) (num m) = (V.zero, 20)) ∨
    (m ≠ 0 ∧ (n = -9223372036854775808 → m ≠ -1) ∧ ∃ q r p, two 6 (num n) (num m) = (num q, 0) ∧ two 7 (num n) (num m) = (num r, 0) ∧ q * m = p ∧ p + r = n ∧ R p ∧ (n < 0 → r ≤ 0) ∧ (0 ≤ n → 0 ≤ r) ∧ (0 < m → -m < r ∧ r < m) ∧ (m < 0 → m < r ∧ r < -m)) := by
  rw [two6, two7]
  by_cases h0 : m = 0
  · left
    exact ⟨h0, by simp [numbers, h0], by simp [numbers, h0]⟩
  right
  by_cases h1 : n = -9223372036854775808 ∧ m = -1
  · left
    obtain ⟨rfl, rfl⟩ := h1
    exact ⟨rfl, rfl, by decide +kernel, by decide +kernel⟩
  · right
    have hd := Int.mul_tdiv_add_tmod n m
    have hlt : (n.tmod m).natAbs < m.natAbs := by
      rw [Int.natAbs_tmod]; exact Nat.mod_lt _ (by omega)
    have hle : (n.tmod m).natAbs ≤ n.natAbs := by
      rw [Int.natAbs_tmod]; exact Nat.mod_le _ _
    have hnq : (n.tdiv m).natAbs ≤ n.natAbs := by
      rw [Int.natAbs_tdiv]; exact Nat.div_le_self _ _
    have hw : whole n m = true := by
      unfold whole lo
      by_cases h2 : n = -9223372036854775808
      · have : m ≠ -1 := fun h => h1 ⟨h2, h⟩
        simp [this]
      · simp [h2]
    have hs1 : n < 0 → n.tmod m ≤ 0 := fun h => by
      have h2 := Int.tmod_nonneg (a := -n) m (by omega)
      rw [Int.neg_tmod] at h2
      omega
    have hs2 : 0 ≤ n → 0 ≤ n.tmod m := fun h => Int.tmod_nonneg m h
    have hqw : wrap64 (n.tdiv m) = n.tdiv m := by
      apply wrap_of
      unfold R at *
      by_cases h2 : n.tdiv m = 9223372036854775808
      · exfalso
        rw [h2] at hd hnq
        have : n = -9223372036854775808 := by omega
        subst this
        have hmm : m ≠ -1 := fun h => h1 ⟨rfl, h⟩
        omega
      · omega
    have e6 : numbers 6 n m = (num (n.tdiv m), 0) := by
      unfold numbers
      rw [if_neg (fun h => h0 h.1)]
      have : opn 6 n m = (n.tdiv m, true) := by simp [opn, hqw, hw]
      rw [this]
      rfl
    have e7 : numbers 7 n m = (num (n.tmod m), 0) := by
      unfold numbers
      rw [if_neg (fun h => h0 h.1)]
      have : opn 7 n m = (n.tmod m, true) := by simp [opn, hw]
      rw [this]
      rfl
    refine ⟨h0, fun h h' => h1 ⟨h, h'⟩, n.tdiv m, n.tmod m, n.tdiv m * m, e6, e7, rfl, ?_, ?_, hs1, hs2, ?_, ?_⟩
    · rw [Int.mul_comm]; exact hd
    · rw [Int.mul_comm]
      generalize n.tmod m = r at *
      generalize m * n.tdiv m = p at *
      unfold R at *
      omega
    · intro h; omega
    · intro h; omega
end Go.Proofs.Ytgkdmccceegifaa.Vnb
