/- The number that stands at the head of bytes, as plain Lean data. No Go here. No condition. -/
import Derived.Test.YtijhdnpaeliaoaaWm
import Derived.Laws.BitsAllLaws
import Derived.Lib.Strings
namespace Go.Proofs.Ytijhdnpaeliaoaa.We
open Go.RowKit Go.Proofs.Ytijhdnpaeliaoaa.Wm
set_option linter.unusedVariables false
/-- From byte number i on, n what has been read: the number, the refusal (0: none), what is left. -/
def pz (most : Nat) : Nat → Nat → List UInt8 → Nat × Int × List UInt8
  | _, _, [] => (0, 8, [])
  | i, n, b :: t =>
    if 9 < i ∨ 18446744073709551616 ≤ b.toNat % 128 * 128 ^ i ∨ most < n + b.toNat % 128 * 128 ^ i then (0, 4, [])
    else if 128 ≤ b.toNat then pz most (i + 1) (n + b.toNat % 128 * 128 ^ i) t
    else if b.toNat = 0 ∧ 0 < i then (0, 4, [])
    else (n + b.toNat % 128 * 128 ^ i, 0, t)
def takeR (most : Nat) (s : ByteArray) : Nat × Int × ByteArray :=
  ((pz most 0 0 s.data.toList).1, (pz most 0 0 s.data.toList).2.1, if (pz most 0 0 s.data.toList).2.1 = 0 then ⟨(pz most 0 0 s.data.toList).2.2.toArray⟩ else s)
theorem takeR_no {most : Nat} {s : ByteArray} {c : Int} (h : (pz most 0 0 s.data.toList) = (0, c, [])) (hc : c ≠ 0) : takeR most s = (0, c, s) := by
  unfold takeR
  rw [h]
  simp only
  rw [if_neg hc]
theorem takeR_ok {most n : Nat} {s : ByteArray} {t : List UInt8} (h : (pz most 0 0 s.data.toList) = (n, 0, t)) : takeR most s = (n, 0, ⟨t.toArray⟩) := by
  unfold takeR
  rw [h]
  rfl
theorem pz_end {most i n : Nat} : pz most i n [] = (0, 8, []) := rfl
theorem pz_bad {most i n : Nat} {b : UInt8} {t : List UInt8} (h : 9 < i ∨ 18446744073709551616 ≤ b.toNat % 128 * 128 ^ i ∨ most < n + b.toNat % 128 * 128 ^ i) : pz most i n (b :: t) = (0, 4, []) := by
  rw [pz, if_pos h]
theorem pz_on {most i n : Nat} {b : UInt8} {t : List UInt8} (h : ¬ (9 < i ∨ 18446744073709551616 ≤ b.toNat % 128 * 128 ^ i ∨ most < n + b.toNat % 128 * 128 ^ i)) (h2 : 128 ≤ b.toNat) : pz most i n (b :: t) = pz most (i + 1) (n + b.toNat % 128 * 128 ^ i) t := by
  rw [pz, if_neg h, if_pos h2]
theorem pz_zero {most i n : Nat} {b : UInt8} {t : List UInt8} (h : ¬ (9 < i ∨ 18446744073709551616 ≤ b.toNat % 128 * 128 ^ i ∨ most < n + b.toNat % 128 * 128 ^ i)) (h2 : b.toNat = 0) (h3 : 0 < i) : pz most i n (b :: t) = (0, 4, []) := by
  rw [pz, if_neg h, if_neg (by omega), if_pos ⟨h2, h3⟩]
theorem pz_last {most i n : Nat} {b : UInt8} {t : List UInt8} (h : ¬ (9 < i ∨ 18446744073709551616 ≤ b.toNat % 128 * 128 ^ i ∨ most < n + b.toNat % 128 * 128 ^ i)) (h2 : b.toNat < 128) (h3 : ¬ (b.toNat = 0 ∧ 0 < i)) : pz most i n (b :: t) = (n + b.toNat % 128 * 128 ^ i, 0, t) := by
  rw [pz, if_neg h, if_neg (by omega), if_neg h3]
theorem drop_cons (s : ByteArray) (i : Nat) (h : i < s.size) : s.data.toList.drop i = s[i] :: s.data.toList.drop (i + 1) := by
  rw [List.drop_eq_getElem_cons (by simpa using h)]
  rfl
theorem rest_of (s : ByteArray) (i : Nat) : (⟨(s.data.toList.drop i).toArray⟩ : ByteArray) = s.extract i s.size := by
  apply ByteArray.ext
  apply Array.ext'
  have h := Lib.extract_data s i s.size
  rw [h]
  show s.data.toList.drop i = _
  rw [List.take_of_length_le]
  rw [List.length_drop]
  exact Nat.le_refl _
theorem pow128 (i : Nat) : (128 : Nat) ^ i = 2 ^ (7 * i) := by rw [Nat.pow_mul]
theorem pow128i (i : Nat) : (2 : Int) ^ (7 * i) = ((128 ^ i : Nat) : Int) := by rw [pow128]; simp
theorem wrap_fit {q i : Nat} (h : q * 128 ^ i < 18446744073709551616) : IntKind.u64.wrap ((q : Int) * 2 ^ (7 * i)) = ((q * 128 ^ i : Nat) : Int) := by
  rw [pow128i]
  have : (q : Int) * ((128 ^ i : Nat) : Int) = ((q * 128 ^ i : Nat) : Int) := by simp
  rw [this]
  generalize q * 128 ^ i = p at *
  simp [IntKind.wrap, IntKind.bits, IntKind.signed]
  omega
theorem div_fit (q i : Nat) : ((q * 128 ^ i : Nat) : Int) / 2 ^ (7 * i) = (q : Int) := by
  rw [pow128i]
  have h : 0 < 128 ^ i := Nat.pow_pos (by decide)
  have := Nat.mul_div_cancel q h
  exact_mod_cast this
theorem wrap_over {q i : Nat} (hq : q < 128) (hi : i ≤ 9) (h : 18446744073709551616 ≤ q * 128 ^ i) : (IntKind.u64.wrap ((q : Int) * 2 ^ (7 * i)) / 2 ^ (7 * i) == (q : Int)) = false := by
  rw [pow128i]
  have e : (q : Int) * ((128 ^ i : Nat) : Int) = ((q * 128 ^ i : Nat) : Int) := by simp
  rw [e]
  have hi9 : i = 9 := by
    have : ¬ i ≤ 8 := by
      intro h8
      have h1 : q * 128 ^ i ≤ 128 * 128 ^ 8 := Nat.mul_le_mul (by omega) (Nat.pow_le_pow_right (by decide) h8)
      have h2 : 128 * 128 ^ 8 < 18446744073709551616 := by decide
      omega
    omega
  subst hi9
  have e9 : (128 : Nat) ^ 9 = 9223372036854775808 := by decide
  rw [e9] at h ⊢
  simp [IntKind.wrap, IntKind.bits, IntKind.signed]
  omega
theorem or_fit {n q i : Nat} (hn : n < 128 ^ i) (h : q * 128 ^ i < 18446744073709551616) (hn2 : n < 18446744073709551616) : bits .or .u64 (n : Int) ((q * 128 ^ i : Nat) : Int) = ((n + q * 128 ^ i : Nat) : Int) := by
  rw [u64_or_nat _ _ hn2 h, pow128] at *
  have := Nat.two_pow_add_eq_or_of_lt hn q
  rw [Nat.mul_comm] at this
  rw [Nat.or_comm, ← this, Nat.add_comm]
theorem and_127 (b : Nat) (h : b < 256) : bits .and .u64 (b : Int) 127 = ((b % 128 : Nat) : Int) := by
  have := u64_and_nat b 127 (by omega) (by decide)
  have e : b &&& 127 = b % 128 := Nat.and_two_pow_sub_one_eq_mod b 7
  rw [e] at this
  exact this
theorem below128 {n b i : Nat} (h : n < 128 ^ i) : n + b % 128 * 128 ^ i < 128 ^ (i + 1) := by
  have h1 : b % 128 * 128 ^ i ≤ 127 * 128 ^ i := Nat.mul_le_mul_right _ (by omega)
  rw [Nat.pow_succ]
  omega
end Go.Proofs.Ytijhdnpaeliaoaa.We
