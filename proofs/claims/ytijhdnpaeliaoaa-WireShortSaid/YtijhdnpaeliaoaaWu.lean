/- WireShort's plain law: without its last bytes nothing is read: bytes are missing. No Go here. -/
import Derived.Test.YtijhdnpaeliaoaaWt
namespace Go.Proofs.Ytijhdnpaeliaoaa.Wu
open Go.RowKit Go.Proofs.Ytijhdnpaeliaoaa.Wm Go.Proofs.Ytijhdnpaeliaoaa.We Go.Proofs.Ytijhdnpaeliaoaa.Wg Go.Proofs.Ytijhdnpaeliaoaa.Wp Go.Proofs.Ytijhdnpaeliaoaa.Wd Go.Proofs.Ytijhdnpaeliaoaa.Wt
set_option linter.unusedVariables false
theorem rd_short {most n c : Nat} (h : n ≤ most) (h64 : n < 18446744073709551616) (hc : c < (enc n).length) : rdNum most (S ((enc n).take c)) = (0, 8, St.bad 8) :=
  rd_no (take_no (short h h64 hc) (by decide)) (by decide)
theorem num_short {n c : Nat} (h : n ≤ 1099511627776) (hc : c < (enc n).length) : numS (S ((enc n).take c)) = (0, 8, St.bad 8) := rd_short h (by omega) hc
theorem num_empty : numS (S []) = (0, 8, St.bad 8) := rd_no (most := 1099511627776) (take_no (most := 1099511627776) (l := []) (c := 8) rfl (by decide)) (by decide)
theorem int_short {x : Int} {c : Nat} (h1 : -9223372036854775808 ≤ x) (h2 : x ≤ 9223372036854775807) (hc : c < (enc (zz x)).length) : intS (S ((enc (zz x)).take c)) = (0, 8, St.bad 8) := by
  have hz := zz_lt h1 h2
  have : rdNum 18446744073709551615 (S ((enc (zz x)).take c)) = (0, 8, St.bad 8) := rd_short (by omega) hz hc
  unfold intS
  rw [this]
  show (unzz 0, (8 : Int), St.bad 8) = _
  rw [show unzz 0 = 0 by decide]
theorem take_lt {a b : List UInt8} {c : Nat} (h : c < a.length) : (a ++ b).take c = a.take c := by
  rw [List.take_append, show c - a.length = 0 by omega]
  simp
theorem take_ge {a b : List UInt8} {c : Nat} (h : ¬ c < a.length) : (a ++ b).take c = a ++ b.take (c - a.length) := by
  rw [List.take_append, List.take_of_length_le (by omega)]
theorem text_short {y : List UInt8} {most : Int} {c : Nat} (hm : (y.length : Int) ≤ most) (h2 : y.length ≤ 1099511627776) (hc : c < (enc y.length ++ y).length) : textS most (S ((enc y.length ++ y).take c)) = (⟨#[]⟩, 8, St.bad 8) := by
  by_cases h : c < (enc y.length).length
  · rw [take_lt h]
    unfold textS
    rw [num_short h2 h]
    rfl
  · rw [take_ge h]
    unfold textS
    rw [num_ok h2]
    simp only
    rw [if_pos trivial, if_neg (by omega)]
    have hsz : (S (y.take (c - (enc y.length).length))).s.size < y.length := by
      show (B _).size < _
      rw [B_size, List.length_take]
      rw [List.length_append] at hc
      omega
    rw [if_pos hsz]
theorem enc_one {k : Nat} (h : k < 128) : (enc k).length = 1 := by rw [enc_small h]; rfl
theorem val_short {v : V} {c : Nat} (h : mayK v = true) (h1 : -9223372036854775808 ≤ v.n) (h2 : v.n ≤ 9223372036854775807) (hc : c < (valL v).length) : valS (S ((valL v).take c)) = (V.zero, 8, St.bad 8) := by
  cases c with
  | zero =>
    show valS (S []) = _
    unfold valS
    rw [num_empty]
    rfl
  | succ c =>
    rcases may_form h with rfl | ⟨hk, ht⟩ | ⟨m, hm, rfl⟩ | ⟨hk, hn, hs⟩
    · have : (valL ⟨0, 0, B []⟩) = enc 0 := rfl
      rw [this, enc_one (by decide)] at hc
      omega
    · obtain ⟨k, n, s⟩ := v
      dsimp only at hk ht h1 h2
      subst hk ht
      have e : valL ⟨1, n, B []⟩ = enc 1 ++ enc (zz n) := rfl
      rw [e] at hc ⊢
      rw [take_ge (by rw [enc_one (by decide)]; omega), enc_one (by decide)]
      rw [List.length_append, enc_one (by decide)] at hc
      unfold valS
      rw [num_ok (by decide)]
      simp only
      rw [int_short h1 h2 (by omega)]
      rfl
    · have e : valL ⟨2, m, B []⟩ = enc 2 ++ enc (m : Int).toNat := rfl
      rw [e, Int.toNat_natCast] at hc ⊢
      rw [take_ge (by rw [enc_one (by decide)]; omega), enc_one (by decide)]
      rw [List.length_append, enc_one (by decide)] at hc
      unfold valS
      rw [num_ok (by decide)]
      simp only
      rw [num_short (by omega) (by omega)]
      rfl
    · obtain ⟨k, n, s⟩ := v
      dsimp only at hk hn hs
      subst hk hn
      have e : valL ⟨3, 0, s⟩ = enc 3 ++ (enc s.size ++ s.data.toList) := rfl
      rw [e] at hc ⊢
      rw [take_ge (by rw [enc_one (by decide)]; omega), enc_one (by decide)]
      rw [List.length_append, enc_one (by decide)] at hc
      have hl : s.size = s.data.toList.length := by rw [Array.length_toList]; rfl
      unfold valS
      rw [num_ok (by decide)]
      simp only
      rw [hl] at hc hs ⊢
      rw [text_short (by omega) (by omega) (by omega)]
      rfl
/-- What the law asks of each. -/
theorem ask_int {x : Int} (h1 : -9223372036854775808 ≤ x) (h2 : x ≤ 9223372036854775807) : 0 < (intW ⟨#[]⟩ x).size ∧ (intW ⟨#[]⟩ x).size ≤ 1000000 ∧ ∀ c, c < (intW ⟨#[]⟩ x).size → intS ⟨(intW ⟨#[]⟩ x).extract 0 c, 0⟩ = (0, 8, St.bad 8) := by
  have e : intW ⟨#[]⟩ x = B (enc (zz x)) := rfl
  have hl := enc_len10 (zz_lt h1 h2)
  have hp := enc_pos (zz x)
  rw [e, B_size]
  exact ⟨hp, by omega, fun c hc => by rw [B_take]; exact int_short h1 h2 hc⟩
theorem ask_text {t : ByteArray} (h : t.size ≤ 500) : 0 < (textW ⟨#[]⟩ t).size ∧ (textW ⟨#[]⟩ t).size ≤ 1000000 ∧ ∀ c, c < (textW ⟨#[]⟩ t).size → textS 500 ⟨(textW ⟨#[]⟩ t).extract 0 c, 0⟩ = (⟨#[]⟩, 8, St.bad 8) := by
  have e : textW ⟨#[]⟩ t = B (enc t.size ++ t.data.toList) := textW_s ⟨#[]⟩ t
  have hlt : t.size = t.data.toList.length := by rw [Array.length_toList]; rfl
  have hl := enc_len10 (n := t.size) (by omega)
  have hp := enc_pos t.size
  rw [e, B_size, List.length_append, ← hlt]
  refine ⟨by omega, by omega, fun c hc => ?_⟩
  rw [B_take, hlt]
  exact text_short (by omega) (by omega) (by rw [List.length_append, ← hlt]; omega)
theorem ask_val {v : V} (hm : mayK v = true) (hs : v.t.size ≤ 500) (h1 : -9223372036854775808 ≤ v.n) (h2 : v.n ≤ 9223372036854775807) : 0 < (valW ⟨#[]⟩ v).size ∧ (valW ⟨#[]⟩ v).size ≤ 1000000 ∧ ∀ c, c < (valW ⟨#[]⟩ v).size → valS ⟨(valW ⟨#[]⟩ v).extract 0 c, 0⟩ = (V.zero, 8, St.bad 8) := by
  have e : valW ⟨#[]⟩ v = B (valL v) := valW_s ⟨#[]⟩ v
  have hlt : v.t.size = v.t.data.toList.length := by rw [Array.length_toList]; rfl
  rw [e, B_size]
  have hb : 0 < (valL v).length ∧ (valL v).length ≤ 1000000 := by
    rcases may_kinds hm with h | h | ⟨h, a, b⟩ | ⟨h, a⟩
    · have : valL v = enc 0 := by unfold valL; rw [if_neg (by omega), if_neg (by omega), if_neg (by omega)]
      rw [this, enc_one (by decide)]; omega
    · have : valL v = enc 1 ++ enc (zz v.n) := by unfold valL; rw [if_pos h]
      have hl := enc_len10 (zz_lt h1 h2)
      rw [this, List.length_append, enc_one (by decide)]; omega
    · have : valL v = enc 2 ++ enc v.n.toNat := by unfold valL; rw [if_neg (by omega), if_pos h]
      have hl := enc_len10 (n := v.n.toNat) (by omega)
      rw [this, List.length_append, enc_one (by decide)]; omega
    · have : valL v = enc 3 ++ (enc v.t.size ++ v.t.data.toList) := by unfold valL; rw [if_neg (by omega), if_neg (by omega), if_pos h]
      have hl := enc_len10 (n := v.t.size) (by omega)
      rw [this, List.length_append, List.length_append, enc_one (by decide)]; omega
  exact ⟨hb.1, hb.2, fun c hc => by rw [B_take]; exact val_short hm h1 h2 hc⟩
end Go.Proofs.Ytijhdnpaeliaoaa.Wu
