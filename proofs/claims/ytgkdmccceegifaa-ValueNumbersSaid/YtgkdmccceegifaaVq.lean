/- Plain laws of numbers, texts and their order: no Go here. No condition but the numbers' own range. -/
import Derived.Test.YtgkdmccceegifaaVm
namespace Go.Proofs.Ytgkdmccceegifaa.Vq
open Go.RowKit Go.Proofs.Ytgkdmccceegifaa.Vm

def R (x : Int) : Prop := -9223372036854775808 ≤ x ∧ x ≤ 9223372036854775807
instance (x : Int) : Decidable (R x) := by unfold R; infer_instance
theorem wrap_of {x : Int} (h : R x) : wrap64 x = x := by unfold R at h; unfold wrap64; omega
theorem wrap_R (x : Int) : R (wrap64 x) := by unfold R wrap64; omega
/-- A product is told apart from what goes beyond. -/
theorem mul_ok {a b : Int} (ha : R a) (hb : R b) : (mul a b).2 = decide (R (a * b)) ∧ (R (a * b) → (mul a b).1 = a * b) := by
  unfold mul
  by_cases h0 : a = 0 ∨ b = 0
  · rw [if_pos h0]
    have : a * b = 0 := by rcases h0 with h | h <;> simp [h]
    rw [this]
    exact ⟨by decide, fun _ => rfl⟩
  · rw [if_neg h0]
    have hb0 : b ≠ 0 := by omega
    by_cases h1 : (a = -1 ∧ b = lo) ∨ (b = -1 ∧ a = lo)
    · rw [if_pos h1]
      have : a * b = 9223372036854775808 := by
        unfold lo at h1
        rcases h1 with ⟨h, h'⟩ | ⟨h, h'⟩ <;> rw [h, h'] <;> decide
      rw [this]
      refine ⟨by decide, fun h => ?_⟩
      unfold R at h; omega
    · rw [if_neg h1]
      by_cases hr : R (a * b)
      · rw [wrap_of hr, Int.mul_tdiv_cancel _ hb0, wrap_of ha]
        simp [hr]
      · refine ⟨?_, fun h => absurd h hr⟩
        simp only [decide_eq_false hr, beq_eq_false_iff_ne]
        intro he
        have hc := wrap_R (a * b)
        have hd := Int.mul_tdiv_add_tmod (wrap64 (a * b)) b
        have hm := Int.natAbs_tmod (wrap64 (a * b)) b
        have hlt : ((wrap64 (a * b)).tmod b).natAbs < b.natAbs := by
          rw [hm]; exact Nat.mod_lt _ (by omega)
        have hq : (wrap64 (a * b)).tdiv b = a := by
          have hnq : ((wrap64 (a * b)).tdiv b).natAbs ≤ (wrap64 (a * b)).natAbs := by
            rw [Int.natAbs_tdiv]; exact Nat.div_le_self _ _
          unfold R at hc ha
          generalize (wrap64 (a * b)).tdiv b = q at *
          by_cases hq2 : q = 9223372036854775808
          · exfalso
            subst hq2
            have : wrap64 9223372036854775808 = -9223372036854775808 := by unfold wrap64; omega
            rw [this] at he
            subst he
            generalize wrap64 (-9223372036854775808 * b) = c at *
            generalize c.tmod b = r at *
            have hb2 := hb
            unfold R at hb2
            unfold lo at h1
            have h2 : b ≠ -1 := fun h => h1 (.inr ⟨h, rfl⟩)
            omega
          · have : wrap64 q = q := by unfold wrap64; omega
            omega
        rw [hq] at hd
        have hw : ∃ k : Int, wrap64 (a * b) = a * b + k * 18446744073709551616 := ⟨-((a * b + 9223372036854775808) / 18446744073709551616), by unfold wrap64; omega⟩
        obtain ⟨k, hk⟩ := hw
        rw [Int.mul_comm b a] at hd
        generalize (wrap64 (a * b)).tmod b = r at *
        generalize hab : a * b = p at *
        apply hr
        have hb2 := hb
        unfold R at hb2 hc ⊢
        have : k = 0 := by omega
        subst this
        omega
/-! Texts: what bytesLess and compareBytes say of one another. -/
theorem cmp_less : ∀ (a b : List UInt8), (Lib.compareBytes a b = -1 ∧ Op.bytesLess a b = true ∧ Op.bytesLess b a = false ∧ Lib.compareBytes b a = 1 ∧ a ≠ b) ∨
    (Lib.compareBytes a b = 0 ∧ a = b ∧ Op.bytesLess a b = false) ∨ (Lib.compareBytes a b = 1 ∧ Op.bytesLess a b = false ∧ Op.bytesLess b a = true ∧ Lib.compareBytes b a = -1 ∧ a ≠ b)
  | [], [] => .inr (.inl ⟨by simp [Lib.compareBytes], rfl, by simp [Op.bytesLess]⟩)
  | [], _ :: _ => .inl ⟨by simp [Lib.compareBytes], by simp [Op.bytesLess], by simp [Op.bytesLess], by simp [Lib.compareBytes], by simp⟩
  | _ :: _, [] => .inr (.inr ⟨by simp [Lib.compareBytes], by simp [Op.bytesLess], by simp [Op.bytesLess], by simp [Lib.compareBytes], by simp⟩)
  | a :: x, b :: y => by
    by_cases h1 : a < b
    · have h2 : ¬ b < a := by rw [UInt8.lt_iff_toNat_lt] at *; omega
      have h3 : a ≠ b := by intro e; subst e; exact h2 h1
      refine .inl ⟨by simp [Lib.compareBytes, h1], by simp [Op.bytesLess, h1], by simp [Op.bytesLess, h2, Ne.symm h3], by simp [Lib.compareBytes, h1, h2], by simp [h3]⟩
    · by_cases h2 : b < a
      · have h3 : a ≠ b := by intro e; subst e; exact h1 h2
        refine .inr (.inr ⟨by simp [Lib.compareBytes, h1, h2], by simp [Op.bytesLess, h1, h3], by simp [Op.bytesLess, h2], by simp [Lib.compareBytes, h2], by simp [h3]⟩)
      · have h3 : a = b := by
          apply UInt8.toNat_inj.1
          rw [UInt8.lt_iff_toNat_lt] at *; omega
        subst h3
        rcases cmp_less x y with ⟨e1, e2, e3, e4, e5⟩ | ⟨e1, e2, e3⟩ | ⟨e1, e2, e3, e4, e5⟩
        · exact .inl ⟨by simp [Lib.compareBytes, h1, e1], by simp [Op.bytesLess, e2], by simp [Op.bytesLess, h1, e3], by simp [Lib.compareBytes, h1, e4], by simp [e5]⟩
        · subst e2
          exact .inr (.inl ⟨by simp [Lib.compareBytes, h1, e1], rfl, by simp [Op.bytesLess, h1, e3]⟩)
        · exact .inr (.inr ⟨by simp [Lib.compareBytes, h1, e1], by simp [Op.bytesLess, h1, e2], by simp [Op.bytesLess, e3], by simp [Lib.compareBytes, h1, e4], by simp [e5]⟩)
theorem less_trans : ∀ (a b c : List UInt8), Op.bytesLess a b = true → Op.bytesLess b c = true → Op.bytesLess a c = true
  | [], _, _ :: _, _, _ => by simp [Op.bytesLess]
  | _, b, [], _, h2 => by cases b <;> simp [Op.bytesLess] at h2
  | _ :: _, [], _ :: _, h1, _ => by simp [Op.bytesLess] at h1
  | a :: x, b :: y, c :: z, h1, h2 => by
    simp only [Op.bytesLess, Bool.or_eq_true, Bool.and_eq_true, decide_eq_true_eq, beq_iff_eq] at *
    rcases h1 with h1 | ⟨rfl, h1⟩
    · rcases h2 with h2 | ⟨rfl, h2⟩
      · left; rw [UInt8.lt_iff_toNat_lt] at *; omega
      · exact .inl h1
    · rcases h2 with h2 | ⟨rfl, h2⟩
      · exact .inl h2
      · exact .inr ⟨rfl, less_trans x y z h1 h2⟩
end Go.Proofs.Ytgkdmccceegifaa.Vq
