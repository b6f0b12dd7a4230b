/- WireApart's plain law: no bytes begin by other ones'. No Go here. -/
import Derived.Test.YtijhdnpaeliaoaaWp
namespace Go.Proofs.Ytijhdnpaeliaoaa.Ws
open Go.RowKit Go.Proofs.Ytijhdnpaeliaoaa.Wm Go.Proofs.Ytijhdnpaeliaoaa.We Go.Proofs.Ytijhdnpaeliaoaa.Wg Go.Proofs.Ytijhdnpaeliaoaa.Wp
set_option linter.unusedVariables false
def pre (a b : ByteArray) : Bool := decide (a.size ≤ b.size) && ((b.extract 0 a.size).toList == a.toList)
theorem pre_iff (a b : ByteArray) : pre a b = true ↔ ∃ t, b.data.toList = a.data.toList ++ t := by
  have ha : a.data.toList.length = a.size := by rw [Array.length_toList]; rfl
  have hb : b.data.toList.length = b.size := by rw [Array.length_toList]; rfl
  unfold pre
  rw [Bool.and_eq_true, decide_eq_true_eq, beq_iff_eq, Lib.extract_toList, Lib.toList_data, List.drop_zero, Nat.sub_zero]
  constructor
  · rintro ⟨_, h2⟩
    refine ⟨b.data.toList.drop a.size, ?_⟩
    have h3 := List.take_append_drop a.size b.data.toList
    rw [h2] at h3
    exact h3.symm
  · rintro ⟨t, h⟩
    have hl := congrArg List.length h
    rw [List.length_append, ha, hb] at hl
    exact ⟨by omega, by rw [h, ← ha, List.take_left]⟩
theorem pre_self (a : ByteArray) : pre a a = true := (pre_iff a a).2 ⟨[], by simp⟩
theorem enc_pre {a b : Nat} {x y : List UInt8} (h : enc a ++ x = enc b ++ y) (ha : a < 18446744073709551616) (hb : b < 18446744073709551616) : a = b ∧ x = y := by
  have h1 := dec (most := 18446744073709551615) (n := a) (t := x) (by omega) ha
  have h2 := dec (most := 18446744073709551615) (n := b) (t := y) (by omega) hb
  rw [h, h2] at h1
  simp only [Prod.mk.injEq, true_and] at h1
  exact ⟨h1.1.symm, h1.2.symm⟩
theorem pre_int {x y : Int} (x1 : -9223372036854775808 ≤ x) (x2 : x ≤ 9223372036854775807) (y1 : -9223372036854775808 ≤ y) (y2 : y ≤ 9223372036854775807) : pre (intW (B []) x) (intW (B []) y) = (x == y) := by
  rw [Bool.eq_iff_iff, pre_iff, beq_iff_eq, intW_s, intW_s]
  simp only [B_list, List.nil_append]
  constructor
  · rintro ⟨t, h⟩
    have := enc_pre (x := []) (y := t) (by rw [List.append_nil]; exact h) (zz_lt y1 y2) (zz_lt x1 x2)
    exact (zz_inj this.1).symm
  · rintro rfl
    exact ⟨[], by simp⟩
theorem toList_eq {t u : ByteArray} (h : t.toList = u.toList) : t = u := by
  rw [Lib.toList_data, Lib.toList_data] at h
  rw [← B_of t, ← B_of u, h]
theorem list_pre {t u x : List UInt8} (hl : t.length = u.length) (h : u = t ++ x) : t = u := by
  have := congrArg List.length h
  rw [List.length_append] at this
  have hx : x = [] := List.eq_nil_of_length_eq_zero (by omega)
  rw [h, hx, List.append_nil]
theorem text_pre {t u : ByteArray} {x : List UInt8} (ht : t.size ≤ 1099511627776) (hu : u.size ≤ 1099511627776) (h : enc u.size ++ u.data.toList = (enc t.size ++ t.data.toList) ++ x) : t = u := by
  rw [List.append_assoc] at h
  have := enc_pre h (by omega) (by omega)
  have hl := list_pre (t := t.data.toList) (u := u.data.toList) (by rw [Array.length_toList, Array.length_toList]; exact this.1.symm) this.2
  rw [← B_of t, ← B_of u, hl]
theorem pre_text {t u : ByteArray} (ht : t.size ≤ 1099511627776) (hu : u.size ≤ 1099511627776) : pre (textW (B []) t) (textW (B []) u) = (t.toList == u.toList) := by
  rw [Bool.eq_iff_iff, pre_iff, beq_iff_eq, textW_s, textW_s]
  simp only [B_list, List.nil_append]
  constructor
  · rintro ⟨x, h⟩
    rw [text_pre ht hu h]
  · intro h
    have := toList_eq h
    subst this
    exact ⟨[], by simp⟩
theorem enc_mono (k : Nat) : ∀ a b, b < k → a ≤ b → (enc a).length ≤ (enc b).length := by
  induction k with
  | zero => intro a b h; omega
  | succ k ih =>
    intro a b hk h
    by_cases hb : b < 128
    · rw [enc_small (by omega), enc_small hb]
      simp
    · rw [enc_big hb]
      by_cases ha : a < 128
      · rw [enc_small ha]; simp
      · rw [enc_big ha]
        have := ih (a / 128) (b / 128) (by omega) (by omega)
        simp only [List.length_cons]
        omega
theorem far_len {x y : Int} (h : x.natAbs < y.natAbs) : (intW (B []) x).size ≤ (intW (B []) y).size := by
  rw [intW_s, intW_s, B_size, B_size]
  simp only [B_list, List.nil_append]
  refine enc_mono (zz y + 1) _ _ (by omega) ?_
  have := @zz_pos x
  have := @zz_neg x
  have := @zz_pos y
  have := @zz_neg y
  by_cases hx : 0 ≤ x <;> by_cases hy : 0 ≤ y <;> simp_all <;> omega
theorem val_pre {v w : V} {x : List UInt8} (hv : mayK v = true) (hw : mayK w = true) (v1 : -9223372036854775808 ≤ v.n) (v2 : v.n ≤ 9223372036854775807) (w1 : -9223372036854775808 ≤ w.n) (w2 : w.n ≤ 9223372036854775807) (h : valL w = valL v ++ x) : v = w := by
  have h1 := val_ok (t := x) hv v1 v2
  have h2 := val_ok (t := []) hw w1 w2
  rw [List.append_nil, h, h1] at h2
  simp only [Prod.mk.injEq] at h2
  exact h2.1
theorem pre_val {v w : V} (hv : mayK v = true) (hw : mayK w = true) (v1 : -9223372036854775808 ≤ v.n) (v2 : v.n ≤ 9223372036854775807) (w1 : -9223372036854775808 ≤ w.n) (w2 : w.n ≤ 9223372036854775807) : pre (valW (B []) v) (valW (B []) w) = (v.k == w.k && (v.n == w.n && v.t.toList == w.t.toList)) := by
  rw [Bool.eq_iff_iff, pre_iff, valW_s, valW_s]
  simp only [B_list, List.nil_append, Bool.and_eq_true, beq_iff_eq]
  constructor
  · rintro ⟨x, h⟩
    have := val_pre hv hw v1 v2 w1 w2 h
    subst this
    exact ⟨rfl, rfl, rfl⟩
  · rintro ⟨h1, h2, h3⟩
    have : v = w := by
      obtain ⟨k, n, t⟩ := v
      obtain ⟨k', n', t'⟩ := w
      dsimp only at h1 h2 h3
      rw [h1, h2, toList_eq h3]
    subst this
    exact ⟨[], by simp⟩
end Go.Proofs.Ytijhdnpaeliaoaa.Ws
