/- The writers of package wire and of the document's text, as contracts. Condition: the texts are no longer than 2^40 bytes. -/
import Derived.Test.YtijhdnpaeliaoaaWa
import Derived.Laws.StructEq
namespace Go.Proofs.Ytijhdnpaeliaoaa.Wc
open Go.RowKit Go.Proofs.Ytijhdnpaeliaoaa.Wm Go.Proofs.Ytijhdnpaeliaoaa.Wb Go.Proofs.Ytijhdnpaeliaoaa.Wa
set_option linter.unusedVariables false
set_option linter.unusedSimpArgs false
set_option maxRecDepth 100000
theorem cell_u8 (w : World) (m : Nat) (h : m < 256) : ∀ j (hj : j < [UInt8.ofNat m].length), (w.alloc (.cells #[.int .u8 (m : Int)] 5)).cell? ((⟨w.heap.size, 0, none⟩ : Addr).add j) = some (.int .u8 ([UInt8.ofNat m][j].toNat : Int)) := by
  intro j hj
  have : j = 0 := by simpa using hj
  subst this
  have : (⟨w.heap.size, 0, none⟩ : Addr).add 0 = ⟨w.heap.size, 0, none⟩ := rfl
  rw [this]
  simp [go_sem]
  omega
theorem str_u8 (w : World) (m : Nat) (h : m < 256) : (convert 50 9 (.slice (some ⟨w.heap.size, 0, none⟩) 1 1)).run Try.prog (w.alloc (.cells #[.int .u8 (m : Int)] 5)) = .ok (.string ⟨#[UInt8.ofNat m]⟩) (w.alloc (.cells #[.int .u8 (m : Int)] 5)) :=
  run_convert_bytes_back (P := Try.prog) _ 50 9 5 ⟨w.heap.size, 0, none⟩ 1 [UInt8.ofNat m] Try.underlying50 Try.underlying5 Try.underlying9 (cell_u8 w m h)
theorem app_one (l : List UInt8) (b : UInt8) : (⟨l.toArray⟩ : ByteArray) ++ (⟨#[b]⟩ : ByteArray) = ⟨(l ++ [b]).toArray⟩ := by
  apply ByteArray.ext
  simp [ByteArray.data_append]
theorem bytesC (s : ByteArray) (n : Nat) (hs : s.size ≤ 1099511627776) (hn : n < 18446744073709551616) (w : World) : Calls Try.prog 35 #[.string s, .int .u64 n] w fun e w' => e = .returned (.string (put s n)) ∧ Below w.heap.size w w' := by
  have hl10 := enc_len10 hn
  go_enter Try.func35, Try.ntmps35
  go_wp2_with fail
  go_loopw [1, 0] (fun nv v wr => ∃ (l : List UInt8) (m : Nat), nv = .int .u64 (m : Int) ∧ m ≤ n ∧ l ++ enc m = s.data.toList ++ enc n ∧ v = .string ⟨l.toArray⟩ ∧ Below w.heap.size w wr) (fun nv _ _ => (intOf nv).toNat)
  case atStart => exact ⟨s.data.toList, n, rfl, Nat.le_refl _, rfl, rfl, Below.refl _ _⟩
  case round =>
    obtain ⟨l, m, rfl, hmn, hlm, rfl, hbel⟩ := hrel
    have hll : l.length + (enc m).length = s.size + (enc n).length := by
      have := congrArg List.length hlm
      simpa using this
    have hep := enc_pos m
    have hbs := hbel.size
    have HL := Lib.hid hlm
    have hsz : (⟨l.toArray⟩ : ByteArray).size = l.length := by simp [ByteArray.size]
    have hcat : ¬ 9223372036854775807 < l.length + 1 := by omega
    clear hlm
    by_cases hm : m < 128
    · have hge : decide ((127 : Int) < (m : Int)) = false := by simp; omega
      have hst := str_u8 wr m (by omega)
      go_wp2_with fail
      go_ret
      exact ⟨by rw [app_one, ← enc_small hm, HL.out]; rfl, hbel.alloc hbs _⟩
    · have hge : decide ((127 : Int) < (m : Int)) = true := by simp; omega
      have hst := str_u8 wr (m % 128 + 128) (by omega)
      have hc : ((m % 128 + 128 : Nat) : Int) = (m : Int) % 128 + 128 := by omega
      rw [hc] at hst
      have hof : UInt8.ofNat (m % 128 + 128) = UInt8.ofNat (m % 128) + 128 := by simp
      rw [hof] at hst
      have HOF := Lib.hid hof
      clear hc hof
      go_wp2_with fail
      go_roundw
      case rel => exact ⟨l ++ [UInt8.ofNat (m % 128 + 128)], m / 128, by simp, by omega, by rw [← HL.out, enc_big hm]; simp, by rw [app_one, HOF.out], hbel.alloc hbs _⟩
      case measure => simp [intOf]; omega
theorem xor_pos (x : Int) (h : 0 ≤ x) (h2 : x ≤ 9223372036854775807) : bits .xor .u64 (x * 2) (x / 9223372036854775808) = (zz x : Int) := by
  have h3 : x / 9223372036854775808 = 0 := by omega
  rw [h3, u64_xor _ _ (by omega) (by omega) (by omega) (by omega), zz_pos h]
  simp
  omega
theorem xor_neg (x : Int) (h : ¬ 0 ≤ x) (h2 : -9223372036854775808 ≤ x) : bits .xor .u64 (IntKind.u64.wrap (IntKind.u64.wrap x * 2)) (IntKind.u64.wrap (x / 9223372036854775808)) = (zz x : Int) := by
  have h3 : x / 9223372036854775808 = -1 := by omega
  have w1 : IntKind.u64.wrap x = x + 18446744073709551616 := by simp [IntKind.wrap, IntKind.bits, IntKind.signed]; omega
  have w2 : IntKind.u64.wrap ((x + 18446744073709551616) * 2) = 2 * x + 18446744073709551616 := by simp [IntKind.wrap, IntKind.bits, IntKind.signed]; omega
  have w3 : IntKind.u64.wrap (-1) = 18446744073709551615 := by decide
  rw [h3, w1, w2, w3, u64_xor _ _ (by omega) (by omega) (by omega) (by omega), zz_neg h]
  have h4 : ∀ a : Nat, a < 2 ^ 64 → a ^^^ 18446744073709551615 = 18446744073709551615 - a := by
    intro a ha
    apply Nat.eq_of_testBit_eq
    intro i
    have e : 18446744073709551615 - a = 2 ^ 64 - (a + 1) := by omega
    rw [e, Nat.testBit_two_pow_sub_succ ha, Nat.testBit_xor, show (18446744073709551615 : Nat) = 2 ^ 64 - 1 from rfl, Nat.testBit_two_pow_sub_one]
    by_cases hi : i < 64
    · simp [hi]
    · have := Nat.testBit_lt_two_pow (x := a) (i := i) (Nat.lt_of_lt_of_le ha (Nat.pow_le_pow_right (by decide) (by omega)))
      simp [hi, this]
  rw [show (18446744073709551615 : Int).toNat = 18446744073709551615 from rfl, h4 _ (by omega)]
  omega
theorem intC (s : ByteArray) (x : Int) (hs : s.size ≤ 1099511627776) (h1 : -9223372036854775808 ≤ x) (h2 : x ≤ 9223372036854775807) (w : World) : Calls Try.prog 15 #[.string s, .int .i64 x] w fun e w' => e = .returned (.string (intW s x)) ∧ Below w.heap.size w w' := by
  by_cases hx : 0 ≤ x
  · have hz := xor_pos x hx h2
    go_enter Try.func15, Try.ntmps15
    go_wp2_with (go_at_call 34; refine (putC _ _ hs (zz_lt h1 h2) _).mono ?_; rintro e w1 ⟨rfl, hb1⟩)
    go_ret
    exact ⟨rfl, hb1⟩
  · have hz := xor_neg x hx h1
    go_enter Try.func15, Try.ntmps15
    go_wp2_with (go_at_call 34; refine (putC _ _ hs (zz_lt h1 h2) _).mono ?_; rintro e w1 ⟨rfl, hb1⟩)
    go_ret
    exact ⟨rfl, hb1⟩
theorem rintC (s : ByteArray) (x : Int) (hs : s.size ≤ 1099511627776) (h1 : -9223372036854775808 ≤ x) (h2 : x ≤ 9223372036854775807) (w : World) : Calls Try.prog 16 #[.string s, .int .i64 x] w fun e w' => e = .returned (.string (intW s x)) ∧ Below w.heap.size w w' := by
  by_cases hx : 0 ≤ x
  · have h3 : decide ((0 : Int) ≤ x) = true := by simpa using hx
    have hz := (zz_pos hx).symm
    go_enter Try.func16, Try.ntmps16
    go_wp2_with (go_at_call 35; refine (bytesC _ _ hs (zz_lt h1 h2) _).mono ?_; rintro e w1 ⟨rfl, hb1⟩)
    go_ret
    exact ⟨rfl, hb1⟩
  · have h3 : decide ((0 : Int) ≤ x) = false := by simpa using hx
    have hz := (zz_neg hx).symm
    go_enter Try.func16, Try.ntmps16
    go_wp2_with (go_at_call 35; refine (bytesC _ _ hs (zz_lt h1 h2) _).mono ?_; rintro e w1 ⟨rfl, hb1⟩)
    go_ret
    exact ⟨rfl, hb1⟩
theorem textC (s t : ByteArray) (hs : s.size ≤ 1099511627776) (ht : t.size ≤ 1099511627776) (w : World) : Calls Try.prog 17 #[.string s, .string t] w fun e w' => e = .returned (.string (textW s t)) ∧ Below w.heap.size w w' := by
  have hl := enc_len10 (n := t.size) (by omega)
  have hsz := put_size (s := s) (n := t.size)
  have hcat : ¬ 9223372036854775807 < s.size + (enc t.size).length + t.size := by omega
  go_enter Try.func17, Try.ntmps17
  go_wp2_with (go_at_call 34; refine (putC _ _ hs (by omega) _).mono ?_; rintro e w1 ⟨rfl, hb1⟩)
  go_ret
  exact ⟨rfl, hb1⟩
theorem rtextC (s t : ByteArray) (hs : s.size ≤ 1099511627776) (ht : t.size ≤ 1099511627776) (w : World) : Calls Try.prog 18 #[.string s, .string t] w fun e w' => e = .returned (.string (textW s t)) ∧ Below w.heap.size w w' := by
  have hl := enc_len10 (n := t.size) (by omega)
  have hsz := put_size (s := s) (n := t.size)
  have hcat : ¬ 9223372036854775807 < s.size + (enc t.size).length + t.size := by omega
  go_enter Try.func18, Try.ntmps18
  go_wp2_with (go_at_call 35; refine (bytesC _ _ hs (by omega) _).mono ?_; rintro e w1 ⟨rfl, hb1⟩)
  go_ret
  exact ⟨rfl, hb1⟩
theorem numC (s : ByteArray) (x : Int) (hs : s.size ≤ 1099511627776) (w : World) : Calls Try.prog 11 #[.string s, .int .i64 x] w fun e w' => e = .returned (.tuple #[.string (numR s x).1, .int .i64 (numR s x).2]) ∧ Below w.heap.size w w' := by
  by_cases h1 : x < 0
  · have hr : numR s x = (s, 1) := by unfold numR; rw [if_pos (.inl h1)]
    rw [hr]
    clear hr
    go_enter Try.func11, Try.ntmps11
    go_wp2_with fail
    go_ret2
    exact ⟨rfl, Below.refl _ _⟩
  · by_cases h2 : 1099511627776 < x
    · have hr : numR s x = (s, 1) := by unfold numR; rw [if_pos (.inr h2)]
      rw [hr]
      clear hr
      go_enter Try.func11, Try.ntmps11
      go_wp2_with fail
      go_ret2
      exact ⟨rfl, Below.refl _ _⟩
    · obtain ⟨n, rfl⟩ : ∃ n : Nat, x = n := ⟨x.toNat, by omega⟩
      have hr : numR s n = (put s n, 0) := by unfold numR; rw [if_neg (by omega)]; rfl
      rw [hr]
      clear hr
      go_enter Try.func11, Try.ntmps11
      go_wp2_with (go_at_call 34; refine (putC _ _ hs (by omega) _).mono ?_; rintro e w1 ⟨rfl, hb1⟩)
      go_ret2
      exact ⟨rfl, hb1⟩
theorem rnumC (s : ByteArray) (x : Int) (hs : s.size ≤ 1099511627776) (w : World) : Calls Try.prog 12 #[.string s, .int .i64 x] w fun e w' => e = .returned (.tuple #[.string (numR s x).1, .int .i64 (numR s x).2]) ∧ Below w.heap.size w w' := by
  by_cases h1 : x < 0
  · have hr : numR s x = (s, 1) := by unfold numR; rw [if_pos (.inl h1)]
    rw [hr]
    clear hr
    go_enter Try.func12, Try.ntmps12
    go_wp2_with fail
    go_ret2
    exact ⟨rfl, Below.refl _ _⟩
  · by_cases h2 : 1099511627776 < x
    · have hr : numR s x = (s, 1) := by unfold numR; rw [if_pos (.inr h2)]
      rw [hr]
      clear hr
      go_enter Try.func12, Try.ntmps12
      go_wp2_with fail
      go_ret2
      exact ⟨rfl, Below.refl _ _⟩
    · obtain ⟨n, rfl⟩ : ∃ n : Nat, x = n := ⟨x.toNat, by omega⟩
      have hr : numR s n = (put s n, 0) := by unfold numR; rw [if_neg (by omega)]; rfl
      rw [hr]
      clear hr
      go_enter Try.func12, Try.ntmps12
      go_wp2_with (go_at_call 35; refine (bytesC _ _ hs (by omega) _).mono ?_; rintro e w1 ⟨rfl, hb1⟩)
      go_ret2
      exact ⟨rfl, hb1⟩
end Go.Proofs.Ytijhdnpaeliaoaa.Wc
