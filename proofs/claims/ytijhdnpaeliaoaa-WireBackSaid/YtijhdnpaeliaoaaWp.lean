/- Bytes that were written are read, and what is read was written so: plain facts on lists of bytes. No Go here. Conditions as written. -/
import Derived.Test.YtijhdnpaeliaoaaWg
namespace Go.Proofs.Ytijhdnpaeliaoaa.Wp
open Go.RowKit Go.Proofs.Ytijhdnpaeliaoaa.Wm Go.Proofs.Ytijhdnpaeliaoaa.We Go.Proofs.Ytijhdnpaeliaoaa.Wg
set_option linter.unusedVariables false
theorem toNat_ofNat {n : Nat} (h : n < 256) : (UInt8.ofNat n).toNat = n := by simp; omega
theorem i_small {n i : Nat} (hn : 128 ≤ n) (h : n * 128 ^ i < 18446744073709551616) : i + 1 ≤ 9 := by
  apply Nat.le_of_not_lt
  intro hi
  have h1 : (128 : Nat) ^ 9 ≤ 128 ^ i := Nat.pow_le_pow_right (by decide) (by omega)
  have h2 : 128 * 128 ^ 9 ≤ n * 128 ^ i := Nat.mul_le_mul hn h1
  have h3 : 18446744073709551616 ≤ 128 * 128 ^ 9 := by decide
  omega
theorem split128 (n i : Nat) : n % 128 * 128 ^ i + n / 128 * 128 ^ (i + 1) = n * 128 ^ i := by
  rw [Nat.pow_succ, Nat.mul_comm (128 ^ i) 128, ← Nat.mul_assoc, ← Nat.add_mul]
  congr 1
  omega
/-- What 'enc' has written is read. -/
theorem dec_enc (most : Nat) (t : List UInt8) : ∀ (k n i acc : Nat), n < k → i ≤ 9 → n * 128 ^ i < 18446744073709551616 → acc + n * 128 ^ i ≤ most → (n ≠ 0 ∨ i = 0) → pz most i acc (enc n ++ t) = (acc + n * 128 ^ i, 0, t) := by
  intro k
  induction k with
  | zero => intro n i acc h; omega
  | succ k ih =>
    intro n i acc hk hi h64 hm hz
    by_cases hn : n < 128
    · rw [enc_small hn]
      have hb : (UInt8.ofNat n).toNat = n := toNat_ofNat (by omega)
      have hmod : n % 128 = n := by omega
      show pz most i acc (UInt8.ofNat n :: t) = _
      rw [pz_last (by rw [hb, hmod]; omega) (by rw [hb]; exact hn) (by rw [hb]; omega), hb, hmod]
    · rw [enc_big hn]
      have hb : (UInt8.ofNat (n % 128 + 128)).toNat = n % 128 + 128 := toNat_ofNat (by omega)
      have hmod : (n % 128 + 128) % 128 = n % 128 := by omega
      have hs := split128 n i
      have hi9 := i_small (by omega) h64
      show pz most i acc (UInt8.ofNat (n % 128 + 128) :: (enc (n / 128) ++ t)) = _
      rw [pz_on (by rw [hb, hmod]; omega) (by rw [hb]; omega), hb, hmod, ih (n / 128) (i + 1) (acc + n % 128 * 128 ^ i) (by omega) hi9 (by omega) (by omega) (by omega)]
      rw [Nat.add_assoc, hs]
theorem dec {most n : Nat} {t : List UInt8} (h : n ≤ most) (h64 : n < 18446744073709551616) : pz most 0 0 (enc n ++ t) = (n, 0, t) := by
  have := dec_enc most t (n + 1) n 0 0 (by omega) (by omega) (by simpa using h64) (by simpa using h) (.inr rfl)
  simpa using this
/-- What is read was written so. -/
theorem enc_dec (most : Nat) : ∀ (l : List UInt8) (i acc m : Nat) (t : List UInt8), pz most i acc l = (m, 0, t) → ∃ n, m = acc + n * 128 ^ i ∧ l = enc n ++ t ∧ (n ≠ 0 ∨ i = 0) ∧ m ≤ most := by
  intro l
  induction l with
  | nil => intro i acc m t h; simp [pz] at h
  | cons b l ih =>
    intro i acc m t h
    rw [pz] at h
    have hb := b.toNat_lt
    split at h
    · simp at h
    · rename_i hno
      split at h
      · rename_i h128
        obtain ⟨n, h1, h2, h3, h5⟩ := ih _ _ _ _ h
        have hn : n ≠ 0 := by omega
        refine ⟨n * 128 + b.toNat % 128, ?_, ?_, .inl (by omega), h5⟩
        · have hs := split128 (n * 128 + b.toNat % 128) i
          have e1 : (n * 128 + b.toNat % 128) % 128 = b.toNat % 128 := by omega
          have e2 : (n * 128 + b.toNat % 128) / 128 = n := by omega
          rw [e1, e2] at hs
          omega
        · have e1 : (n * 128 + b.toNat % 128) % 128 = b.toNat % 128 := by omega
          have e2 : (n * 128 + b.toNat % 128) / 128 = n := by omega
          rw [enc_big (by omega), e1, e2, h2]
          have : UInt8.ofNat (b.toNat % 128 + 128) = b := by
            apply UInt8.toNat_inj.1
            rw [toNat_ofNat (by omega)]
            omega
          rw [this]
          rfl
      · split at h
        · simp at h
        · rename_i h128 hz
          simp only [Prod.mk.injEq] at h
          obtain ⟨rfl, _, rfl⟩ := h
          have hmod : b.toNat % 128 = b.toNat := by omega
          rw [hmod]
          refine ⟨b.toNat, rfl, ?_, by omega, ?_⟩
          · rw [enc_small (by omega)]
            simp
          · rw [hmod] at hno; omega
/-- Without its last bytes a number is not read: bytes are missing. -/
theorem dec_short (most : Nat) : ∀ (k n i acc c : Nat), n < k → i ≤ 9 → n * 128 ^ i < 18446744073709551616 → acc + n * 128 ^ i ≤ most → c < (enc n).length → pz most i acc ((enc n).take c) = (0, 8, []) := by
  intro k
  induction k with
  | zero => intro n i acc c h; omega
  | succ k ih =>
    intro n i acc c hk hi h64 hm hc
    by_cases hn : n < 128
    · rw [enc_small hn] at hc ⊢
      have : c = 0 := by simpa using hc
      subst this
      rfl
    · rw [enc_big hn] at hc ⊢
      cases c with
      | zero => rfl
      | succ c =>
        have hb : (UInt8.ofNat (n % 128 + 128)).toNat = n % 128 + 128 := toNat_ofNat (by omega)
        have hmod : (n % 128 + 128) % 128 = n % 128 := by omega
        have hs := split128 n i
        have hi9 := i_small (by omega) h64
        simp only [List.length_cons] at hc
        rw [List.take_succ_cons, pz_on (by rw [hb, hmod]; omega) (by rw [hb]; omega), hb, hmod]
        exact ih (n / 128) (i + 1) _ c (by omega) hi9 (by omega) (by omega) (by omega)
theorem short {most n c : Nat} (h : n ≤ most) (h64 : n < 18446744073709551616) (hc : c < (enc n).length) : pz most 0 0 ((enc n).take c) = (0, 8, []) :=
  dec_short most (n + 1) n 0 0 c (by omega) (by omega) (by simpa using h64) (by simpa using h) hc
/-- Bytes as a text. -/
def B (l : List UInt8) : ByteArray := ⟨l.toArray⟩
theorem B_list (l : List UInt8) : (B l).data.toList = l := rfl
theorem B_of (s : ByteArray) : B s.data.toList = s := rfl
theorem B_size (l : List UInt8) : (B l).size = l.length := by
  show l.toArray.size = _
  rw [List.size_toArray]
theorem B_inj {a b : List UInt8} (h : B a = B b) : a = b := by rw [← B_list a, ← B_list b, h]
theorem B_append (a b : List UInt8) : B a ++ B b = B (a ++ b) := by
  apply ByteArray.ext
  simp [B, ByteArray.data_append]
theorem B_drop (l : List UInt8) (n : Nat) : (B l).extract n (B l).size = B (l.drop n) := by
  rw [← rest_of]
  rfl
theorem B_take (l : List UInt8) (n : Nat) : (B l).extract 0 n = B (l.take n) := by
  have h := Lib.extract_data (B l) 0 n
  apply ByteArray.ext
  apply Array.ext'
  rw [h]
  simp [B]
def S (l : List UInt8) : St := ⟨B l, 0⟩
theorem take_ok {most n : Nat} {l t : List UInt8} (h : pz most 0 0 l = (n, 0, t)) : takeR most (B l) = (n, 0, B t) := takeR_ok h
theorem take_no {most : Nat} {l : List UInt8} {c : Int} (h : pz most 0 0 l = (0, c, [])) (hc : c ≠ 0) : takeR most (B l) = (0, c, B l) := takeR_no h hc
theorem num_ok {n : Nat} {t : List UInt8} (h : n ≤ 1099511627776) : numS (S (enc n ++ t)) = (n, 0, S t) := rd_ok (take_ok (dec h (by omega)))
theorem unzz_zz (x : Int) : unzz (zz x) = x := by
  by_cases hx : 0 ≤ x
  · have := zz_pos hx
    unfold unzz
    rw [if_pos (by omega)]
    omega
  · have := zz_neg hx
    unfold unzz
    rw [if_neg (by omega)]
    omega
theorem zz_inj {x y : Int} (h : zz x = zz y) : x = y := by rw [← unzz_zz x, ← unzz_zz y, h]
theorem zz_unzz {n : Nat} : zz (unzz n) = n := by
  unfold unzz
  by_cases h : n % 2 = 0
  · rw [if_pos h]
    have := zz_pos (x := ((n / 2 : Nat) : Int)) (by omega)
    omega
  · rw [if_neg h]
    have := zz_neg (x := -((n / 2 : Nat) : Int) - 1) (by omega)
    omega
theorem int_ok {x : Int} {t : List UInt8} (h1 : -9223372036854775808 ≤ x) (h2 : x ≤ 9223372036854775807) : intS (S (enc (zz x) ++ t)) = (x, 0, S t) := by
  have hz := zz_lt h1 h2
  have : rdNum 18446744073709551615 (S (enc (zz x) ++ t)) = (zz x, 0, S t) := rd_ok (take_ok (dec (by omega) hz))
  unfold intS
  rw [this]
  simp only [unzz_zz]
theorem text_ok {y t : List UInt8} {most : Int} (h : (y.length : Int) ≤ most) (h2 : y.length ≤ 1099511627776) : textS most (S (enc y.length ++ (y ++ t))) = (B y, 0, S t) := by
  unfold textS
  rw [num_ok h2]
  simp only
  rw [if_pos trivial, if_neg (by omega)]
  have hsz : (S (y ++ t)).s.size = y.length + t.length := by show (B (y ++ t)).size = _; rw [B_size, List.length_append]
  rw [if_neg (by omega)]
  show ((B (y ++ t)).extract 0 y.length, (0 : Int), (⟨(B (y ++ t)).extract y.length (B (y ++ t)).size, 0⟩ : St)) = _
  rw [B_take, B_drop]
  simp [S]
/-- A value's bytes. -/
def valL (v : V) : List UInt8 :=
  if v.k = 1 then enc 1 ++ enc (zz v.n)
  else if v.k = 2 then enc 2 ++ enc v.n.toNat
  else if v.k = 3 then enc 3 ++ (enc v.t.size ++ v.t.data.toList)
  else enc 0
theorem put_B (l : List UInt8) (n : Nat) : put (B l) n = B (l ++ enc n) := rfl
theorem put_s (s : ByteArray) (n : Nat) : put s n = B (s.data.toList ++ enc n) := rfl
theorem intW_s (s : ByteArray) (x : Int) : intW s x = B (s.data.toList ++ enc (zz x)) := rfl
theorem textW_s (s t : ByteArray) : textW s t = B (s.data.toList ++ (enc t.size ++ t.data.toList)) := by
  unfold textW
  rw [put_s, ← B_of t, B_append, List.append_assoc]
  rfl
theorem valW_s (s : ByteArray) (v : V) : valW s v = B (s.data.toList ++ valL v) := by
  unfold valW valL
  by_cases h1 : v.k = 1
  · rw [if_pos h1, if_pos h1, put_s, intW_s, B_list, List.append_assoc]
  rw [if_neg h1, if_neg h1]
  by_cases h2 : v.k = 2
  · rw [if_pos h2, if_pos h2, put_s, put_s, B_list, List.append_assoc]
  rw [if_neg h2, if_neg h2]
  by_cases h3 : v.k = 3
  · rw [if_pos h3, if_pos h3, put_s, textW_s, B_list, List.append_assoc]
  rw [if_neg h3, if_neg h3, put_s]
theorem may_form {v : V} (h : mayK v = true) : v = ⟨0, 0, B []⟩ ∨ (v.k = 1 ∧ v.t = B []) ∨ (∃ m : Nat, m ≤ 1 ∧ v = ⟨2, m, B []⟩) ∨ (v.k = 3 ∧ v.n = 0 ∧ v.t.size ≤ 40) := by
  obtain ⟨k, n, t⟩ := v
  have te : ∀ t : ByteArray, t.toList = [] → t = B [] := by
    intro t ht
    rw [Lib.toList_data] at ht
    rw [← B_of t, ht]
  unfold mayK at h
  dsimp only at h
  by_cases k0 : k = 0
  · rw [if_pos k0] at h
    simp only [Bool.and_eq_true, beq_iff_eq] at h
    left
    rw [k0, h.1, te t h.2]
  rw [if_neg k0] at h
  by_cases k1 : k = 1
  · rw [if_pos k1, beq_iff_eq] at h
    exact .inr (.inl ⟨k1, te t h⟩)
  rw [if_neg k1] at h
  by_cases k2 : k = 2
  · rw [if_pos k2] at h
    simp only [Bool.and_eq_true, Bool.or_eq_true, beq_iff_eq] at h
    refine .inr (.inr (.inl ⟨n.toNat, by omega, ?_⟩))
    rw [k2, te t h.2]
    congr 1
    omega
  rw [if_neg k2] at h
  by_cases k3 : k = 3
  · rw [if_pos k3] at h
    simp only [Bool.and_eq_true, decide_eq_true_eq, beq_iff_eq] at h
    exact .inr (.inr (.inr ⟨k3, h.1, h.2⟩))
  · rw [if_neg k3] at h
    cases h
/-- A value that was written is read. -/
theorem val_ok {v : V} {t : List UInt8} (h : mayK v = true) (h1 : -9223372036854775808 ≤ v.n) (h2 : v.n ≤ 9223372036854775807) : valS (S (valL v ++ t)) = (v, 0, S t) := by
  rcases may_form h with rfl | ⟨hk, ht⟩ | ⟨m, hm, rfl⟩ | ⟨hk, hn, hs⟩
  · show valS (S (enc 0 ++ t)) = _
    unfold valS
    rw [num_ok (by decide)]
    rfl
  · obtain ⟨k, n, s⟩ := v
    dsimp only at hk ht h1 h2
    subst hk ht
    show valS (S ((enc 1 ++ enc (zz n)) ++ t)) = _
    unfold valS
    rw [List.append_assoc, num_ok (by decide)]
    simp only
    rw [int_ok h1 h2]
    rfl
  · show valS (S ((enc 2 ++ enc (m : Int).toNat) ++ t)) = _
    unfold valS
    rw [List.append_assoc, num_ok (by decide)]
    simp only
    rw [Int.toNat_natCast, num_ok (by omega)]
    simp only
    rw [if_pos trivial, if_neg (by decide), if_neg (by decide), if_pos trivial, if_pos trivial, if_neg (by omega)]
    rfl
  · obtain ⟨k, n, s⟩ := v
    dsimp only at hk hn hs
    subst hk hn
    show valS (S ((enc 3 ++ (enc s.size ++ s.data.toList)) ++ t)) = _
    unfold valS
    rw [List.append_assoc, num_ok (by decide)]
    simp only
    have hl : s.size = s.data.toList.length := by rw [Array.length_toList]; rfl
    rw [hl, List.append_assoc, text_ok (by omega) (by omega), B_of]
    rfl
end Go.Proofs.Ytijhdnpaeliaoaa.Wp
