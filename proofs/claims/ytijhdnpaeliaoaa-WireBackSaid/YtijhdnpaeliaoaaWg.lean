/- What the readers come to, as plain Lean data. No Go here. No condition. -/
import Derived.Test.YtijhdnpaeliaoaaWe
namespace Go.Proofs.Ytijhdnpaeliaoaa.Wg
open Go.RowKit Go.Proofs.Ytijhdnpaeliaoaa.Wm Go.Proofs.Ytijhdnpaeliaoaa.We
set_option linter.unusedVariables false
/-- A reader: what is left, what was wrong. -/
structure St where
  s : ByteArray
  e : Int
def St.bad (c : Int) : St := ⟨⟨#[]⟩, c⟩
def rdNum (most : Nat) (st : St) : Nat × Int × St :=
  if st.e = 0 then (if (takeR most st.s).2.1 = 0 then ((takeR most st.s).1, 0, ⟨(takeR most st.s).2.2, 0⟩) else (0, (takeR most st.s).2.1, St.bad (takeR most st.s).2.1)) else (0, st.e, st)
def numS (st : St) : Nat × Int × St := rdNum 1099511627776 st
def unzz (n : Nat) : Int := if n % 2 = 0 then (n / 2 : Nat) else -((n / 2 : Nat) : Int) - 1
def intS (st : St) : Int × Int × St := (unzz (rdNum 18446744073709551615 st).1, (rdNum 18446744073709551615 st).2.1, (rdNum 18446744073709551615 st).2.2)
def textS (most : Int) (st : St) : ByteArray × Int × St :=
  if (numS st).2.1 = 0 then
    if most < (numS st).1 then (⟨#[]⟩, 40, St.bad 40)
    else if (numS st).2.2.s.size < (numS st).1 then (⟨#[]⟩, 8, St.bad 8)
    else ((numS st).2.2.s.extract 0 (numS st).1, 0, ⟨(numS st).2.2.s.extract (numS st).1 (numS st).2.2.s.size, 0⟩)
  else (⟨#[]⟩, (numS st).2.1, (numS st).2.2)
def valS (st : St) : V × Int × St :=
  if (numS st).2.1 = 0 then
    if 3 < (numS st).1 then (V.zero, 4, St.bad 4)
    else if (numS st).1 = 1 then
      if (intS (numS st).2.2).2.1 = 0 then (⟨1, (intS (numS st).2.2).1, ⟨#[]⟩⟩, 0, (intS (numS st).2.2).2.2) else (V.zero, (intS (numS st).2.2).2.1, (intS (numS st).2.2).2.2)
    else if (numS st).1 = 2 then
      if (numS (numS st).2.2).2.1 = 0 then
        if 1 < (numS (numS st).2.2).1 then (V.zero, 4, St.bad 4) else (⟨2, (numS (numS st).2.2).1, ⟨#[]⟩⟩, 0, (numS (numS st).2.2).2.2)
      else (V.zero, (numS (numS st).2.2).2.1, (numS (numS st).2.2).2.2)
    else if (numS st).1 = 3 then
      if (textS 40 (numS st).2.2).2.1 = 0 then (⟨3, 0, (textS 40 (numS st).2.2).1⟩, 0, (textS 40 (numS st).2.2).2.2) else (V.zero, (textS 40 (numS st).2.2).2.1, (textS 40 (numS st).2.2).2.2)
    else (V.zero, 0, (numS st).2.2)
  else (V.zero, (numS st).2.1, (numS st).2.2)
def endS (st : St) : Int × St := if st.e = 0 then (if st.s.size = 0 then (0, st) else (4, St.bad 4)) else (st.e, st)
theorem rd_wrong {most : Nat} {st : St} (h : st.e ≠ 0) : rdNum most st = (0, st.e, st) := by unfold rdNum; rw [if_neg h]
theorem rd_ok {most n : Nat} {s t : ByteArray} (h : takeR most s = (n, 0, t)) : rdNum most ⟨s, 0⟩ = (n, 0, ⟨t, 0⟩) := by
  unfold rdNum
  simp only [h]
  rfl
theorem rd_no {most n : Nat} {s t : ByteArray} {c : Int} (h : takeR most s = (n, c, t)) (hc : c ≠ 0) : rdNum most ⟨s, 0⟩ = (0, c, St.bad c) := by
  unfold rdNum
  simp only [h]
  rw [if_pos trivial, if_neg hc]
theorem pz_err (most : Nat) : ∀ (l : List UInt8) (i n : Nat), (pz most i n l).2.1 = 0 ∨ ((pz most i n l).2.1 = 4 ∨ (pz most i n l).2.1 = 8) ∧ (pz most i n l).1 = 0 := by
  intro l
  induction l with
  | nil => intro i n; right; simp [pz]
  | cons b t ih =>
    intro i n
    rw [pz]
    split
    · right; simp
    · split
      · exact ih _ _
      · split
        · right; simp
        · left; rfl
theorem pz_most (most : Nat) : ∀ (l : List UInt8) (i n : Nat), n ≤ most → (pz most i n l).1 ≤ most := by
  intro l
  induction l with
  | nil => intro i n h; simp [pz]
  | cons b t ih =>
    intro i n h
    rw [pz]
    split
    · simp
    · rename_i hn
      split
      · exact ih _ _ (by omega)
      · split
        · simp
        · simp only; omega
theorem takeR_most (most : Nat) (s : ByteArray) : (takeR most s).1 ≤ most := pz_most most _ 0 0 (Nat.zero_le _)
/-- The two ways of a number. -/
theorem take_two (most : Nat) (s : ByteArray) : (∃ n t, takeR most s = (n, 0, t) ∧ n ≤ most) ∨ (∃ c, takeR most s = (0, c, s) ∧ (c = 4 ∨ c = 8)) := by
  have hm := takeR_most most s
  rcases pz_err most s.data.toList 0 0 with h | ⟨h, hz⟩
  · left
    refine ⟨(takeR most s).1, (takeR most s).2.2, ?_, hm⟩
    have : (takeR most s).2.1 = 0 := h
    rw [← this]
  · right
    have hc : (pz most 0 0 s.data.toList).2.1 ≠ 0 := by omega
    refine ⟨(pz most 0 0 s.data.toList).2.1, ?_, h⟩
    unfold takeR
    rw [if_neg hc, hz]
theorem rd_two (most : Nat) (s : ByteArray) : (∃ n t, rdNum most ⟨s, 0⟩ = (n, 0, ⟨t, 0⟩) ∧ n ≤ most ∧ takeR most s = (n, 0, t)) ∨ (∃ c, rdNum most ⟨s, 0⟩ = (0, c, St.bad c) ∧ (c = 4 ∨ c = 8) ∧ takeR most s = (0, c, s)) := by
  rcases take_two most s with ⟨n, t, h, hn⟩ | ⟨c, h, hc⟩
  · exact .inl ⟨n, t, rd_ok h, hn, h⟩
  · exact .inr ⟨c, rd_no h (by omega), hc, h⟩
theorem pz_left (most : Nat) : ∀ (l : List UInt8) (i n : Nat), (pz most i n l).2.2.length ≤ l.length := by
  intro l
  induction l with
  | nil => intro i n; simp [pz]
  | cons b t ih =>
    intro i n
    rw [pz]
    split
    · simp
    · split
      · have := ih (i + 1) (n + b.toNat % 128 * 128 ^ i); simp only [List.length_cons]; omega
      · split <;> simp
theorem takeR_left (most : Nat) (s : ByteArray) : (takeR most s).2.2.size ≤ s.size := by
  unfold takeR
  simp only
  split
  · have := pz_left most s.data.toList 0 0
    show (pz most 0 0 s.data.toList).2.2.toArray.size ≤ s.data.size
    rw [List.size_toArray]
    simpa using this
  · exact Nat.le_refl _
end Go.Proofs.Ytijhdnpaeliaoaa.Wg
