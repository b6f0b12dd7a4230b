/- Numbers as bytes, seven bits a byte, as plain Lean data. No Go here. No condition. -/
import Derived.WalkKit
namespace Go.Proofs.Ytijhdnpaeliaoaa.Wm
open Go.RowKit
set_option linter.unusedVariables false
def enc (n : Nat) : List UInt8 := if n < 128 then [UInt8.ofNat n] else UInt8.ofNat (n % 128 + 128) :: enc (n / 128)
termination_by n
decreasing_by omega
theorem enc_small {n : Nat} (h : n < 128) : enc n = [UInt8.ofNat n] := by unfold enc; rw [if_pos h]
theorem enc_big {n : Nat} (h : ¬ n < 128) : enc n = UInt8.ofNat (n % 128 + 128) :: enc (n / 128) := by rw [enc, if_neg h]
theorem enc_len (k : Nat) : ∀ n, n < 128 ^ (k + 1) → (enc n).length ≤ k + 1 := by
  induction k with
  | zero => intro n h; rw [enc_small (by simpa using h)]; simp
  | succ k ih =>
    intro n h
    by_cases hn : n < 128
    · rw [enc_small hn]; simp
    · rw [enc_big hn]
      have : n / 128 < 128 ^ (k + 1) := by rw [Nat.div_lt_iff_lt_mul (by decide)]; rw [Nat.pow_succ] at h; exact h
      have := ih _ this
      simp only [List.length_cons]
      omega
theorem enc_len10 {n : Nat} (h : n < 18446744073709551616) : (enc n).length ≤ 10 := enc_len 9 n (Nat.lt_of_lt_of_le h (by decide))
theorem enc_pos (n : Nat) : 0 < (enc n).length := by unfold enc; split <;> simp
/-- What 'put' and 'bytes' make. -/
def put (s : ByteArray) (n : Nat) : ByteArray := ⟨(s.data.toList ++ enc n).toArray⟩
theorem put_size {s : ByteArray} {n : Nat} : (put s n).size = s.size + (enc n).length := by
  show (s.data.toList ++ enc n).toArray.size = _
  rw [List.size_toArray, List.length_append]
  rfl
theorem put_list {s : ByteArray} {n : Nat} : (put s n).data.toList = s.data.toList ++ enc n := rfl
theorem or128 (m : Nat) : ((m % 256) ||| 128) = m % 128 + 128 := by
  have h1 : m % 256 = (m % 256 / 128) * 128 + m % 128 := by omega
  have h2 : m % 256 / 128 < 2 := by omega
  have hlt : m % 128 < 2 ^ 7 := by omega
  have e : m % 128 + 128 = (m % 128) ||| 128 := by
    have := Nat.two_pow_add_eq_or_of_lt hlt 1
    rw [Nat.add_comm, Nat.or_comm]; simpa using this
  rw [e]
  apply Nat.eq_of_testBit_eq
  intro i
  simp only [Nat.testBit_or]
  have : (128 : Nat) = 2 ^ 7 := rfl
  rw [show (256 : Nat) = 2 ^ 8 from rfl, show m % 128 = m % 2 ^ 7 from rfl, this]
  simp only [Nat.testBit_mod_two_pow, Nat.testBit_two_pow]
  by_cases hi : i = 7
  · subst hi; simp
  · have : decide (7 = i) = false := by simp; omega
    rw [this]
    simp only [Bool.or_false]
    by_cases h8 : i < 7
    · simp [h8, show i < 8 by omega]
    · simp [h8, show ¬ i < 8 by omega]
structure V where
  k : Int
  n : Int
  t : ByteArray
  deriving DecidableEq
def V.zero : V := ⟨0, 0, ⟨#[]⟩⟩
/-- A whole number as a number of 64 bits. -/
def zz (x : Int) : Nat := if 0 ≤ x then (2 * x).toNat else (2 * -(x + 1) + 1).toNat
theorem zz_pos {x : Int} (h : 0 ≤ x) : (zz x : Int) = 2 * x := by unfold zz; rw [if_pos h]; omega
theorem zz_neg {x : Int} (h : ¬ 0 ≤ x) : (zz x : Int) = 2 * -(x + 1) + 1 := by unfold zz; rw [if_neg h]; omega
theorem zz_lt {x : Int} (h1 : -9223372036854775808 ≤ x) (h2 : x ≤ 9223372036854775807) : zz x < 18446744073709551616 := by unfold zz; split <;> omega
def mayK (v : V) : Bool :=
  if v.k = 0 then v.n == 0 && v.t.toList == []
  else if v.k = 1 then v.t.toList == []
  else if v.k = 2 then (v.n == 0 || v.n == 1) && v.t.toList == []
  else if v.k = 3 then v.n == 0 && decide (v.t.size ≤ 40)
  else false
def intW (s : ByteArray) (x : Int) : ByteArray := put s (zz x)
def textW (s t : ByteArray) : ByteArray := put s t.size ++ t
def valW (s : ByteArray) (v : V) : ByteArray :=
  if v.k = 1 then intW (put s 1) v.n
  else if v.k = 2 then put (put s 2) v.n.toNat
  else if v.k = 3 then textW (put s 3) v.t
  else put s 0
/-- What 'Value' comes to: the bytes, and the number of the refusal. -/
def valR (s : ByteArray) (v : V) : ByteArray × Int := if mayK v then (valW s v, 0) else (s, 4)
def numR (s : ByteArray) (n : Int) : ByteArray × Int := if n < 0 ∨ 1099511627776 < n then (s, 1) else (put s n.toNat, 0)
end Go.Proofs.Ytijhdnpaeliaoaa.Wm
