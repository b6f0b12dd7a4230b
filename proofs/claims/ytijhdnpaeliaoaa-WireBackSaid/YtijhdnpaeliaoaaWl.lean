/- The document's reader: Num, Int, Text, Value, End, as contracts. Condition: the text is no longer than 2^40 bytes. -/
import Derived.Test.YtijhdnpaeliaoaaWk
namespace Go.Proofs.Ytijhdnpaeliaoaa.Wl
open Go.RowKit Go.Proofs.Ytijhdnpaeliaoaa.Wm Go.Proofs.Ytijhdnpaeliaoaa.Wb Go.Proofs.Ytijhdnpaeliaoaa.Wa Go.Proofs.Ytijhdnpaeliaoaa.We Go.Proofs.Ytijhdnpaeliaoaa.Wf Go.Proofs.Ytijhdnpaeliaoaa.Wg Go.Proofs.Ytijhdnpaeliaoaa.Wh Go.Proofs.Ytijhdnpaeliaoaa.Wi Go.Proofs.Ytijhdnpaeliaoaa.Wj Go.Proofs.Ytijhdnpaeliaoaa.Wk
set_option linter.unusedVariables false
set_option linter.unusedSimpArgs false
set_option maxRecDepth 100000
theorem numberAny (g : Nat) (st : St) (most : Nat) (hs : st.s.size ≤ 1099511627776) (hm : most < 18446744073709551616) (w : World) (h : Rd g st.s st.e w) : Calls Try.prog 47 #[.pointer (some ⟨g, 0, none⟩), .int .u64 most] w (NumPost g most st w) := by
  by_cases he : st.e = 0
  · obtain ⟨s, e⟩ := st
    dsimp only at he hs h
    subst he
    exact numberC g s most hs hm w h
  · have HR := Lib.hid (rd_wrong (most := most) he)
    have c0 := h.c0
    have c1 := h.c1
    have hcb : (st.e != 0) = true := by simpa using he
    clear he
    go_enter Try.func47, Try.ntmps47
    go_wp2_with fail
    go_quiet (fail)
    go_wp2_with fail
    go_ret2
    exact NumPost.mk HR.out rfl (h.drewN nq) (gr_drewN w nq _)
theorem rd_most (most : Nat) (st : St) : (rdNum most st).1 ≤ most := by
  unfold rdNum
  split
  · split
    · exact takeR_most most st.s
    · exact Nat.zero_le _
  · exact Nat.zero_le _
theorem rd_zero (most : Nat) (st : St) : (rdNum most st).2.1 ≠ 0 → (rdNum most st).1 = 0 := by
  unfold rdNum
  split
  · split
    · intro h; exact absurd rfl h
    · intro _; rfl
  · intro _; rfl
theorem rnumRC (g : Nat) (st : St) (hs : st.s.size ≤ 1099511627776) (w : World) (h : Rd g st.s st.e w) : Calls Try.prog 28 #[.pointer (some ⟨g, 0, none⟩)] w (RPost g w (.tuple #[.int .i64 ((numS st).1 : Int), .int .i64 (numS st).2.1]) (numS st).2.2) := by
  have hc := numberAny g st 1099511627776 hs (by decide) w h
  have hle : (numS st).1 ≤ 1099511627776 := rd_most _ _
  unfold NumPost at hc
  show Calls _ _ _ _ (RPost g w (.tuple #[.int .i64 ((rdNum 1099511627776 st).1 : Int), .int .i64 (rdNum 1099511627776 st).2.1]) (rdNum 1099511627776 st).2.2)
  unfold numS at hle
  obtain ⟨⟨n, c, t⟩, hr⟩ : ∃ r, r = rdNum 1099511627776 st := ⟨_, rfl⟩
  rw [← hr] at hc hle ⊢
  dsimp only at hc hle ⊢
  clear hr
  go_enter Try.func28, Try.ntmps28
  go_wp2_with (go_at_call 47; refine hc.mono ?_; clear hc; rintro e w1 ⟨rfl, hr1, hg1⟩)
  go_ret2
  exact ⟨rfl, hr1, hg1⟩
theorem rintRC (g : Nat) (st : St) (hs : st.s.size ≤ 1099511627776) (w : World) (h : Rd g st.s st.e w) : Calls Try.prog 29 #[.pointer (some ⟨g, 0, none⟩)] w (RPost g w (.tuple #[.int .i64 (intS st).1, .int .i64 (intS st).2.1]) (intS st).2.2) := by
  have hc := numberAny g st 18446744073709551615 hs (by decide) w h
  have hle : (rdNum 18446744073709551615 st).1 ≤ 18446744073709551615 := rd_most _ _
  have hz : (rdNum 18446744073709551615 st).2.1 ≠ 0 → (rdNum 18446744073709551615 st).1 = 0 := rd_zero _ _
  unfold NumPost at hc
  show Calls _ _ _ _ (RPost g w (.tuple #[.int .i64 (unzz (rdNum 18446744073709551615 st).1), .int .i64 (rdNum 18446744073709551615 st).2.1]) (rdNum 18446744073709551615 st).2.2)
  obtain ⟨⟨n, c, t⟩, hr⟩ : ∃ r, r = rdNum 18446744073709551615 st := ⟨_, rfl⟩
  rw [← hr] at hc hle hz ⊢
  dsimp only at hc hle hz ⊢
  clear hr
  by_cases hc0 : c = 0
  · subst hc0
    by_cases hn : n % 2 = 0
    · have eu := unzz_even hn
      have ed : ((n / 2 : Nat) : Int) = (n : Int) / 2 := by omega
      rw [ed] at eu
      have EU := Lib.hid eu
      have q1 : ((n : Int) % 2 == 0) = true := by simp; omega
      clear eu ed hz hn
      go_enter Try.func29, Try.ntmps29
      go_wp2_with (go_at_call 47; refine hc.mono ?_; clear hc; rintro e w1 ⟨rfl, hr1, hg1⟩)
      go_ret2
      exact ⟨by rw [EU.out]; rfl, hr1, hg1⟩
    · have eu := unzz_odd hn
      have ed : ((n / 2 : Nat) : Int) = (n : Int) / 2 := by omega
      rw [ed] at eu
      have EU := Lib.hid eu
      have q1 : ((n : Int) % 2 == 0) = false := by simp; omega
      clear eu ed hz hn
      go_enter Try.func29, Try.ntmps29
      go_wp2_with (go_at_call 47; refine hc.mono ?_; clear hc; rintro e w1 ⟨rfl, hr1, hg1⟩)
      go_ret2
      exact ⟨by rw [EU.out]; rfl, hr1, hg1⟩
  · have hn0 := hz hc0
    subst hn0
    have q1 : (c != 0) = true := by simpa using hc0
    have e0 : unzz 0 = 0 := by decide
    have E0 := Lib.hid e0
    clear hz hc0 e0 hle
    go_enter Try.func29, Try.ntmps29
    go_wp2_with (go_at_call 47; refine hc.mono ?_; clear hc; rintro e w1 ⟨rfl, hr1, hg1⟩)
    go_ret2
    exact ⟨by rw [E0.out]; rfl, hr1, hg1⟩
theorem rendRC (g : Nat) (st : St) (w : World) (h : Rd g st.s st.e w) : Calls Try.prog 33 #[.pointer (some ⟨g, 0, none⟩)] w (RPost g w (.int .i64 (endS st).1) (endS st).2) := by
  have c0 := h.c0
  have c1 := h.c1
  by_cases he : st.e = 0
  · by_cases hz : st.s.size = 0
    · have hr : endS st = (0, st) := by unfold endS; rw [if_pos he, if_pos hz]
      rw [hr]
      have q1 := size0 hz
      have q2 : (!st.s.toList.isEmpty) = false := by rw [q1]; rfl
      rw [he] at c1
      have HE := Lib.hid he
      clear he hz hr
      go_enter Try.func33, Try.ntmps33
      go_wp2_with fail
      go_ret
      exact ⟨rfl, h, gr_refl _ _⟩
    · have hr : endS st = (4, St.bad 4) := by unfold endS; rw [if_pos he, if_neg hz]
      rw [hr]
      have q1 := size0' hz
      have q2 : (!st.s.toList.isEmpty) = true := by simpa using q1
      rw [he] at c1
      have HE := Lib.hid he
      clear he hz hr
      go_enter Try.func33, Try.ntmps33
      go_wp2_with (go_at_call 48; refine (wrongC g st 4 _ h).mono ?_; rintro e w1 ⟨rfl, hr1, hg1⟩)
      go_ret
      exact ⟨rfl, hr1, hg1⟩
  · have hr : endS st = (st.e, st) := by unfold endS; rw [if_neg he]
    rw [hr]
    have hcb : (st.e == 0) = false := by simpa using he
    clear hr he
    go_enter Try.func33, Try.ntmps33
    go_wp2_with fail
    go_ret
    exact ⟨rfl, h, gr_refl _ _⟩
theorem any_two (st : St) (hs : st.s.size ≤ 1099511627776) : (∃ n t, numS st = (n, 0, ⟨t, 0⟩) ∧ n ≤ 1099511627776 ∧ t.size ≤ 1099511627776) ∨ (∃ c st', numS st = (0, c, st') ∧ c ≠ 0) := by
  by_cases he : st.e = 0
  · obtain ⟨s, e⟩ := st
    dsimp only at he hs
    subst he
    rcases num_two s with ⟨n, t, hr, hn, ht⟩ | ⟨c, hr, hc⟩
    · exact .inl ⟨n, t, hr, hn, by omega⟩
    · exact .inr ⟨c, _, hr, by omega⟩
  · exact .inr ⟨st.e, st, rd_wrong he, he⟩
set_option maxHeartbeats 1000000 in
theorem rtextRC (g : Nat) (most : Int) (st : St) (hs : st.s.size ≤ 1099511627776) (w : World) (h : Rd g st.s st.e w) : Calls Try.prog 30 #[.pointer (some ⟨g, 0, none⟩), .int .i64 most] w (RPost g w (.tuple #[.string (textS most st).1, .int .i64 (textS most st).2.1]) (textS most st).2.2) := by
  rcases any_two st hs with ⟨n, t, hr, hn, ht⟩ | ⟨c, st', hr, hc⟩
  · have HR := Lib.hid hr
    clear hr
    by_cases h1 : most < n
    · have hx : textS most st = (⟨#[]⟩, 40, St.bad 40) := by unfold textS; rw [HR.out]; simp only; rw [if_pos trivial, if_pos h1]
      rw [hx]
      have t1 : decide (most < (n : Int)) = true := by simpa using h1
      clear hx
      go_enter Try.func30, Try.ntmps30
      go_wp2_with (first | (go_at_call 28; refine (rnumRC g st hs _ h).mono ?_; rw [HR.out]; rintro e w1 ⟨rfl, hr1, hg1⟩; have q0 := hr1.c0; have q1 := hr1.c1; have qf0 := hr1.fz 0; have qf1 := hr1.fz 1) | (go_at_call 48; refine (wrongC g ⟨t, 0⟩ 40 _ hr1).mono ?_; rintro e w2 ⟨rfl, hr2, hg2⟩))
      go_ret2
      exact ⟨rfl, hr2, gr_trans hg1 hg2⟩
    · by_cases h2 : t.size < n
      · have hx : textS most st = (⟨#[]⟩, 8, St.bad 8) := by unfold textS; rw [HR.out]; simp only; rw [if_pos trivial, if_neg h1, if_pos h2]
        rw [hx]
        have t1 : decide (most < (n : Int)) = false := by simpa using h1
        have t2 : decide ((t.size : Int) < (n : Int)) = true := by simpa using h2
        have t3 : decide (t.size < n) = true := by simpa using h2
        clear hx
        go_enter Try.func30, Try.ntmps30
        go_wp2_with (first | (go_at_call 28; refine (rnumRC g st hs _ h).mono ?_; rw [HR.out]; rintro e w1 ⟨rfl, hr1, hg1⟩; have q0 := hr1.c0; have q1 := hr1.c1; have qf0 := hr1.fz 0; have qf1 := hr1.fz 1) | (go_at_call 48; refine (wrongC g ⟨t, 0⟩ 8 _ hr1).mono ?_; rintro e w2 ⟨rfl, hr2, hg2⟩))
        go_ret2
        exact ⟨rfl, hr2, gr_trans hg1 hg2⟩
      · have hx : textS most st = (t.extract 0 n, 0, ⟨t.extract n t.size, 0⟩) := by unfold textS; rw [HR.out]; simp only; rw [if_pos trivial, if_neg h1, if_neg h2]
        rw [hx]
        have t1 : decide (most < (n : Int)) = false := by simpa using h1
        have t2 : decide ((t.size : Int) < (n : Int)) = false := by simpa using h2
        have t3 : decide (t.size < n) = false := by simpa using h2
        have t4 : (n : Int) ≤ (t.size : Int) := by omega
        have t5 : n ≤ t.size := by omega
        clear hx
        go_enter Try.func30, Try.ntmps30
        go_wp2_with (go_at_call 28; refine (rnumRC g st hs _ h).mono ?_; rw [HR.out]; rintro e w1 ⟨rfl, hr1, hg1⟩; have q0 := hr1.c0; have q1 := hr1.c1; have qf0 := hr1.fz 0; have qf1 := hr1.fz 1)
        go_ret2
        exact ⟨rfl, hr1.set0, gr_at hg1⟩
  · have HR := Lib.hid hr
    have HC := Lib.hid hc
    have hcb : (c != 0) = true := by simpa using hc
    clear hr hc
    have hx : textS most st = (⟨#[]⟩, c, st') := by unfold textS; rw [HR.out]; simp only; rw [if_neg HC.out]
    rw [hx]
    clear hx
    go_enter Try.func30, Try.ntmps30
    go_wp2_with (go_at_call 28; refine (rnumRC g st hs _ h).mono ?_; rw [HR.out]; rintro e w1 ⟨rfl, hr1, hg1⟩; have q0 := hr1.c0; have q1 := hr1.c1; have qf0 := hr1.fz 0; have qf1 := hr1.fz 1)
    go_ret2
    exact ⟨rfl, hr1, hg1⟩
end Go.Proofs.Ytijhdnpaeliaoaa.Wl
