/- WireAnew's plain law: what is read, written anew, are the bytes that were gone over. No Go here. -/
import Derived.Test.YtijhdnpaeliaoaaWp
import Derived.Test.YtijhdnpaeliaoaaWd
namespace Go.Proofs.Ytijhdnpaeliaoaa.Wt
open Go.RowKit Go.Proofs.Ytijhdnpaeliaoaa.Wm Go.Proofs.Ytijhdnpaeliaoaa.We Go.Proofs.Ytijhdnpaeliaoaa.Wg Go.Proofs.Ytijhdnpaeliaoaa.Wp Go.Proofs.Ytijhdnpaeliaoaa.Wd
set_option linter.unusedVariables false
/-- The head of s that was gone over. -/
def gone (s t : ByteArray) : ByteArray := s.extract 0 (s.size - t.size)
theorem gone_B (a t : List UInt8) : gone (B (a ++ t)) (B t) = B a := by
  unfold gone
  rw [B_size, B_size, List.length_append, Nat.add_sub_cancel, B_take, List.take_left]
theorem size_le (a t : List UInt8) : (B t).size ≤ (B (a ++ t)).size := by rw [B_size, B_size, List.length_append]; omega
theorem num_form (most : Nat) (s : ByteArray) : (∃ n t, rdNum most ⟨s, 0⟩ = (n, 0, ⟨B t, 0⟩) ∧ n ≤ most ∧ s = B (enc n ++ t)) ∨ (∃ c, rdNum most ⟨s, 0⟩ = (0, c, St.bad c) ∧ c ≠ 0) := by
  rcases rd_two most s with ⟨n, t, hr, hn, ht⟩ | ⟨c, hr, hc, ht⟩
  · have h0 : (pz most 0 0 s.data.toList).2.1 = 0 := by
      have : (takeR most s).2.1 = 0 := by rw [ht]
      exact this
    have h1 : (pz most 0 0 s.data.toList).1 = n := by
      have : (takeR most s).1 = n := by rw [ht]
      exact this
    obtain ⟨m, hm1, hm2, _, _⟩ := enc_dec most s.data.toList 0 0 n (pz most 0 0 s.data.toList).2.2 (by rw [← h1, ← h0])
    have hm : m = n := by simpa using hm1.symm
    subst hm
    have ht2 : t = B (pz most 0 0 s.data.toList).2.2 := by
      have : (takeR most s).2.2 = t := by rw [ht]
      rw [← this]
      unfold takeR
      rw [if_pos h0]
      rfl
    left
    refine ⟨m, (pz most 0 0 s.data.toList).2.2, by rw [hr, ht2], hn, ?_⟩
    rw [← hm2, B_of]
  · exact .inr ⟨c, hr, by omega⟩
theorem nums_form (s : ByteArray) : (∃ n t, numS ⟨s, 0⟩ = (n, 0, ⟨B t, 0⟩) ∧ n ≤ 1099511627776 ∧ s = B (enc n ++ t)) ∨ (∃ c, numS ⟨s, 0⟩ = (0, c, St.bad c) ∧ c ≠ 0) := num_form 1099511627776 s
theorem ints_form (s : ByteArray) : (∃ x t, intS ⟨s, 0⟩ = (x, 0, ⟨B t, 0⟩) ∧ s = B (enc (zz x) ++ t) ∧ -9223372036854775808 ≤ x ∧ x ≤ 9223372036854775807) ∨ (∃ c, intS ⟨s, 0⟩ = (0, c, St.bad c) ∧ c ≠ 0) := by
  rcases num_form 18446744073709551615 s with ⟨n, t, hr, hn, hs⟩ | ⟨c, hr, hc⟩
  · left
    refine ⟨unzz n, t, by unfold intS; rw [hr], by rw [zz_unzz]; exact hs, ?_, ?_⟩
    · unfold unzz; split <;> omega
    · unfold unzz; split <;> omega
  · right
    exact ⟨c, by unfold intS; rw [hr]; show (unzz 0, c, St.bad c) = _; rw [show unzz 0 = 0 by decide], hc⟩
theorem text_form (most : Int) (s : ByteArray) : (∃ y t, textS most ⟨s, 0⟩ = (B y, 0, ⟨B t, 0⟩) ∧ s = B (enc y.length ++ (y ++ t)) ∧ (y.length : Int) ≤ most) ∨ (∃ c, textS most ⟨s, 0⟩ = (⟨#[]⟩, c, St.bad c) ∧ c ≠ 0) := by
  rcases nums_form s with ⟨n, t, hr, hn, hs⟩ | ⟨c, hr, hc⟩
  · unfold textS
    rw [hr]
    simp only
    rw [if_pos trivial]
    by_cases h1 : most < n
    · rw [if_pos h1]; exact .inr ⟨40, rfl, by decide⟩
    · rw [if_neg h1]
      by_cases h2 : (B t).size < n
      · rw [if_pos h2]; exact .inr ⟨8, rfl, by decide⟩
      · rw [if_neg h2]
        rw [B_size] at h2
        left
        refine ⟨t.take n, t.drop n, ?_, ?_, ?_⟩
        · rw [B_take, B_drop]
        · rw [List.take_append_drop, List.length_take, Nat.min_eq_left (by omega)]
          exact hs
        · rw [List.length_take, Nat.min_eq_left (by omega)]
          omega
  · unfold textS
    rw [hr]
    simp only
    rw [if_neg hc]
    exact .inr ⟨c, rfl, hc⟩
theorem val_form (s : ByteArray) : (∃ v t, valS ⟨s, 0⟩ = (v, 0, ⟨B t, 0⟩) ∧ s = B (valL v ++ t) ∧ mayK v = true ∧ 0 ≤ v.k ∧ -9223372036854775808 ≤ v.n ∧ v.n ≤ 9223372036854775807) ∨ (∃ c, valS ⟨s, 0⟩ = (V.zero, c, St.bad c) ∧ c ≠ 0) := by
  rcases nums_form s with ⟨n, t, hr, hn, hs⟩ | ⟨c, hr, hc⟩
  · by_cases h3 : 3 < n
    · right; exact ⟨4, by unfold valS; rw [hr]; simp only; rw [if_pos trivial, if_pos h3], by decide⟩
    have hk : n = 0 ∨ n = 1 ∨ n = 2 ∨ n = 3 := by omega
    rcases hk with rfl | rfl | rfl | rfl
    · left
      exact ⟨⟨0, 0, ⟨#[]⟩⟩, t, by unfold valS; rw [hr]; rfl, hs, by decide +kernel, by decide, by decide, by decide⟩
    · rcases ints_form (B t) with ⟨x, t2, hr2, hs2, x1, x2⟩ | ⟨c, hr2, hc⟩
      · left
        refine ⟨⟨1, x, ⟨#[]⟩⟩, t2, by unfold valS; rw [hr]; simp only; rw [hr2]; rfl, ?_, by rw [may1_yes]; decide +kernel, (by decide : (0 : Int) ≤ 1), x1, x2⟩
        show s = B ((enc 1 ++ enc (zz x)) ++ t2)
        rw [List.append_assoc, hs, B_inj hs2]
      · right
        exact ⟨c, by unfold valS; rw [hr]; simp only; rw [hr2]; simp [hc], hc⟩
    · rcases nums_form (B t) with ⟨m, t2, hr2, hm, hs2⟩ | ⟨c, hr2, hc⟩
      · by_cases h1 : 1 < m
        · right; exact ⟨4, by unfold valS; rw [hr]; simp only; rw [hr2]; simp [h1], by decide⟩
        · left
          refine ⟨⟨2, m, ⟨#[]⟩⟩, t2, by unfold valS; rw [hr]; simp only; rw [hr2]; simp [h1], ?_, ?_, (by decide : (0 : Int) ≤ 2), by show (-9223372036854775808 : Int) ≤ (m : Int); omega, by show (m : Int) ≤ 9223372036854775807; omega⟩
          · show s = B ((enc 2 ++ enc (m : Int).toNat) ++ t2)
            rw [List.append_assoc, Int.toNat_natCast, hs, B_inj hs2]
          · rw [may2_yes]
            have : (m : Int) = 0 ∨ (m : Int) = 1 := by omega
            rcases this with h | h <;> rw [h] <;> decide +kernel
      · right
        exact ⟨c, by unfold valS; rw [hr]; simp only; rw [hr2]; simp [hc], hc⟩
    · rcases text_form 40 (B t) with ⟨y, t2, hr2, hs2, hy⟩ | ⟨c, hr2, hc⟩
      · left
        refine ⟨⟨3, 0, B y⟩, t2, by unfold valS; rw [hr]; simp only; rw [hr2]; rfl, ?_, ?_, (by decide : (0 : Int) ≤ 3), (by decide : (-9223372036854775808 : Int) ≤ 0), (by decide : (0 : Int) ≤ 9223372036854775807)⟩
        · show s = B ((enc 3 ++ (enc (B y).size ++ (B y).data.toList)) ++ t2)
          rw [List.append_assoc, List.append_assoc, B_size, B_list, hs, B_inj hs2]
        · rw [may3_yes, B_size]
          simp
          omega
      · right
        exact ⟨c, by unfold valS; rw [hr]; simp only; rw [hr2]; simp [hc], hc⟩
  · right
    exact ⟨c, by unfold valS; rw [hr]; simp only; rw [if_neg hc], hc⟩
/-- What the law asks of each. -/
theorem anew_num (s : ByteArray) : (∃ n t, numS ⟨s, 0⟩ = (n, 0, ⟨t, 0⟩) ∧ t.size ≤ s.size ∧ numR ⟨#[]⟩ (n : Int) = (gone s t, 0)) ∨ (∃ c, numS ⟨s, 0⟩ = (0, c, St.bad c) ∧ c ≠ 0) := by
  rcases nums_form s with ⟨n, t, hr, hn, hs⟩ | h
  · refine .inl ⟨n, B t, hr, by rw [hs]; exact size_le _ _, ?_⟩
    unfold numR
    rw [if_neg (by omega), hs, gone_B]
    rfl
  · exact .inr h
theorem anew_int (s : ByteArray) : (∃ x t, intS ⟨s, 0⟩ = (x, 0, ⟨t, 0⟩) ∧ t.size ≤ s.size ∧ intW ⟨#[]⟩ x = gone s t ∧ -9223372036854775808 ≤ x ∧ x ≤ 9223372036854775807) ∨ (∃ c, intS ⟨s, 0⟩ = (0, c, St.bad c) ∧ c ≠ 0) := by
  rcases ints_form s with ⟨x, t, hr, hs, x1, x2⟩ | h
  · exact .inl ⟨x, B t, hr, by rw [hs]; exact size_le _ _, by rw [hs, gone_B]; rfl, x1, x2⟩
  · exact .inr h
theorem anew_text (s : ByteArray) : (∃ y t, textS (s.size : Int) ⟨s, 0⟩ = (y, 0, ⟨t, 0⟩) ∧ t.size ≤ s.size ∧ y.size ≤ s.size ∧ textW ⟨#[]⟩ y = gone s t) ∨ (∃ c, textS (s.size : Int) ⟨s, 0⟩ = (⟨#[]⟩, c, St.bad c) ∧ c ≠ 0) := by
  rcases text_form (s.size : Int) s with ⟨y, t, hr, hs, hy⟩ | h
  · rw [← List.append_assoc] at hs
    refine .inl ⟨B y, B t, hr, by rw [hs]; exact size_le _ _, by rw [B_size]; omega, ?_⟩
    rw [hs, gone_B, textW_s, B_size, B_list]
    rfl
  · exact .inr h
theorem anew_val (s : ByteArray) : (∃ v t, valS ⟨s, 0⟩ = (v, 0, ⟨t, 0⟩) ∧ t.size ≤ s.size ∧ valR ⟨#[]⟩ v = (gone s t, 0) ∧ 0 ≤ v.k ∧ -9223372036854775808 ≤ v.n ∧ v.n ≤ 9223372036854775807) ∨ (∃ c, valS ⟨s, 0⟩ = (V.zero, c, St.bad c) ∧ c ≠ 0) := by
  rcases val_form s with ⟨v, t, hr, hs, hm, h0, h1, h2⟩ | h
  · refine .inl ⟨v, B t, hr, by rw [hs]; exact size_le _ _, ?_, h0, h1, h2⟩
    rw [valR_ok hm, valW_s, hs, gone_B]
    rfl
  · exact .inr h
end Go.Proofs.Ytijhdnpaeliaoaa.Wt
