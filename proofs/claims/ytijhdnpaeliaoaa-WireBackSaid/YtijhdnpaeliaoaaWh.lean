/- Package wire's reader: Num, Int, End, as contracts. Condition: the text is no longer than 2^40 bytes. -/
import Derived.Test.YtijhdnpaeliaoaaWf
import Derived.Test.YtijhdnpaeliaoaaWg
namespace Go.Proofs.Ytijhdnpaeliaoaa.Wh
open Go.RowKit Go.Proofs.Ytijhdnpaeliaoaa.Wm Go.Proofs.Ytijhdnpaeliaoaa.Wb Go.Proofs.Ytijhdnpaeliaoaa.Wa Go.Proofs.Ytijhdnpaeliaoaa.We Go.Proofs.Ytijhdnpaeliaoaa.Wf Go.Proofs.Ytijhdnpaeliaoaa.Wg
set_option linter.unusedVariables false
set_option linter.unusedSimpArgs false
set_option maxRecDepth 100000
/-- Behind a reader's call: what it hands back; the reader; all else is as it was. -/
def RPost (g : Nat) (w : World) (v : Value) (st : St) (e : Ending) (w' : World) : Prop := e = .returned v ∧ Rd g st.s st.e w' ∧ w.grownBy w' (some g)
theorem cell_far {g b j : Nat} {v : Value} {w w' : World} (hg : w.grownBy w' (some g)) (h : w.cell? ⟨b, j, none⟩ = some v) (hne : b ≠ g) : w'.cell? ⟨b, j, none⟩ = some v :=
  hg.cell h (by simpa using hne)
theorem num1C (g bx : Nat) (st : St) (he : st.e = 0) (hs : st.s.size ≤ 1099511627776) (w : World) (h : Rd g st.s st.e w) (hb : w.cell? ⟨bx, 0, none⟩ = some (.pointer (some ⟨g, 0, none⟩))) :
    Calls Try.prog 46 #[.pointer (some ⟨bx, 0, none⟩)] w fun e w' => e = .returned (.tuple #[.int .i64 ((takeR 1099511627776 st.s).1 : Int), .int .i64 (takeR 1099511627776 st.s).2.1]) ∧ Rd g (takeR 1099511627776 st.s).2.2 0 w' ∧ w.grownBy w' (some g) := by
  have hm := takeR_most 1099511627776 st.s
  obtain ⟨s, e⟩ := st
  dsimp only at he hs h hm ⊢
  subst he
  go_enter Try.func46, Try.ntmps46
  go_wp2_with (go_at_call 40; refine (takeC g s 0 1099511627776 hs (by decide) _ h).mono ?_; rintro e w1 ⟨rfl, hr1, hg1⟩)
  go_ret2
  exact ⟨rfl, hr1, hg1⟩
theorem readNumC (g bx : Nat) (st : St) (hs : st.s.size ≤ 1099511627776) (w : World) (h : Rd g st.s st.e w) (hb : w.cell? ⟨bx, 0, none⟩ = some (.pointer (some ⟨g, 0, none⟩))) :
    Calls Try.prog 45 #[.pointer (some ⟨g, 0, none⟩), .func (.func 46) #[] #[.pointer (some ⟨bx, 0, none⟩)]] w (RPost g w (.tuple #[.int .i64 ((numS st).1 : Int), .int .i64 (numS st).2.1]) (numS st).2.2) := by
  by_cases he : st.e = 0
  · obtain ⟨s, e⟩ := st
    dsimp only at he hs h
    subst he
    have c0 := h.c0
    have c1 := h.c1
    rcases rd_two 1099511627776 s with ⟨n, t, hr, hn, ht⟩ | ⟨c, hr, hc, ht⟩
    · have hr : numS ⟨s, 0⟩ = (n, 0, ⟨t, 0⟩) := hr
      rw [hr]
      have HT := Lib.hid ht
      clear ht hr
      go_enter Try.func45, Try.ntmps45
      go_wp2_with (go_at_call 46; refine (num1C g bx ⟨s, 0⟩ rfl hs _ h hb).mono ?_; rw [HT.out]; rintro e w1 ⟨rfl, hr1, hg1⟩)
      go_ret2
      exact ⟨rfl, hr1, hg1⟩
    · have hr : numS ⟨s, 0⟩ = (0, c, St.bad c) := hr
      rw [hr]
      have HT := Lib.hid ht
      have hcb : (c != 0) = true := by simp; omega
      clear ht hr
      go_enter Try.func45, Try.ntmps45
      go_wp2_with (go_at_call 46; refine (num1C g bx ⟨s, 0⟩ rfl hs _ h hb).mono ?_; rw [HT.out]; rintro e w1 ⟨rfl, hr1, hg1⟩; have q0 := hr1.c0; have q1 := hr1.c1; have qf0 := hr1.fz 0; have qf1 := hr1.fz 1)
      go_ret2
      exact ⟨rfl, hr1.set0.set1, gr_trans hg1 (gr_trans (gr_set _ _ _ _) (gr_set _ _ _ _))⟩
  · have hr : numS st = (0, st.e, st) := rd_wrong he
    rw [hr]
    have c0 := h.c0
    have c1 := h.c1
    have hcb : (st.e != 0) = true := by simpa using he
    clear hr he
    go_enter Try.func45, Try.ntmps45
    go_wp2_with fail
    go_quiet (fail)
    go_wp2_with fail
    go_ret2
    exact ⟨rfl, h.drewN nq, gr_drewN w nq _⟩
theorem numRC (g : Nat) (st : St) (hs : st.s.size ≤ 1099511627776) (w : World) (h : Rd g st.s st.e w) :
    Calls Try.prog 25 #[.pointer (some ⟨g, 0, none⟩)] w (RPost g w (.tuple #[.int .i64 ((numS st).1 : Int), .int .i64 (numS st).2.1]) (numS st).2.2) := by
  go_enter Try.func25, Try.ntmps25
  go_wp2_with (go_at_call 45; refine (readNumC g w.heap.size st hs _ (h.alloc _) (by simp [go_sem])).mono ?_; rintro e w1 ⟨rfl, hr1, hg1⟩)
  go_ret2
  exact ⟨rfl, hr1, gr_trans (gr_alloc _ _ _) hg1⟩
theorem numNil (w : World) : Calls Try.prog 25 #[.pointer none] w fun e w' => e = .returned (.tuple #[.int .i64 0, .int .i64 2]) ∧ Below w.heap.size w w' := by
  have hread : ∀ (x : Value) (w1 : World), Calls Try.prog 45 #[.pointer none, x] w1 fun e w' => e = .returned (.tuple #[.int .i64 0, .int .i64 2]) ∧ w1 = w' := by
    intro x w1
    go_enter Try.func45, Try.ntmps45
    go_wp2_with fail
    go_ret2
    exact ⟨rfl, rfl⟩
  go_enter Try.func25, Try.ntmps25
  go_wp2_with (go_at_call 45; refine (hread _ _).mono ?_; rintro e w1 ⟨rfl, rfl⟩)
  go_ret2
  exact ⟨rfl, by (repeat' (first | (with_reducible exact Below.refl _ _) | (with_reducible assumption) | (with_reducible refine Below.alloc ?_ ?_ _) | (with_reducible refine Below.drew ?_) | (with_reducible refine below_drewN ?_ _) | (with_reducible refine Below.setCell ?_ ?_ _) | (with_reducible refine Below.trans ?_ (Below.mono (by with_reducible assumption) ?_)) | (simp only [World.size_alloc, World.size_setCell, World.heap_drewN, World.size_drew]; omega) | omega | (simp; omega) | (simp; done)))⟩
theorem xor_zero (x : Int) (h1 : 0 ≤ x) (h2 : x ≤ 9223372036854775807) : bits .xor .i64 x 0 = x := by
  show IntKind.i64.wrap ((BitVec.ofInt 64 x ^^^ BitVec.ofInt 64 0).toNat : Int) = _
  have e1 : BitVec.ofInt 64 0 = 0#64 := by decide
  have e2 : (BitVec.ofInt 64 x).toNat = (x % 18446744073709551616).toNat := by rw [BitVec.toNat_ofInt]; rfl
  rw [e1, BitVec.xor_zero, e2, IntKind.wrap_i64]
  omega
theorem xor_m1 (x : Int) (h1 : 0 ≤ x) (h2 : x ≤ 9223372036854775807) : bits .xor .i64 x (-1) = -x - 1 := by
  show IntKind.i64.wrap ((BitVec.ofInt 64 x ^^^ BitVec.ofInt 64 (-1)).toNat : Int) = _
  have e1 : BitVec.ofInt 64 (-1) = BitVec.allOnes 64 := by decide
  have e2 : (BitVec.ofInt 64 x).toNat = (x % 18446744073709551616).toNat := by rw [BitVec.toNat_ofInt]; rfl
  rw [e1, BitVec.xor_allOnes, BitVec.toNat_not, e2, IntKind.wrap_i64]
  omega
theorem and_1 (n : Nat) (h : n < 18446744073709551616) : bits .and .u64 (n : Int) 1 = ((n % 2 : Nat) : Int) := by
  have := u64_and_nat n 1 h (by decide)
  rw [Nat.and_one_is_mod] at this
  exact this
theorem unzz_even {n : Nat} (h : n % 2 = 0) : unzz n = ((n / 2 : Nat) : Int) := by unfold unzz; rw [if_pos h]
theorem unzz_odd {n : Nat} (h : ¬ n % 2 = 0) : unzz n = -((n / 2 : Nat) : Int) - 1 := by unfold unzz; rw [if_neg h]
theorem int1C (g bx : Nat) (st : St) (he : st.e = 0) (hs : st.s.size ≤ 1099511627776) (w : World) (h : Rd g st.s st.e w) (hb : w.cell? ⟨bx, 0, none⟩ = some (.pointer (some ⟨g, 0, none⟩))) :
    Calls Try.prog 39 #[.pointer (some ⟨bx, 0, none⟩)] w fun e w' => e = .returned (.tuple #[.int .i64 (unzz (takeR 18446744073709551615 st.s).1), .int .i64 (takeR 18446744073709551615 st.s).2.1]) ∧ Rd g (takeR 18446744073709551615 st.s).2.2 0 w' ∧ w.grownBy w' (some g) := by
  have hm := takeR_most 18446744073709551615 st.s
  obtain ⟨s, e⟩ := st
  dsimp only at he hs h hm ⊢
  subst he
  obtain ⟨⟨n, c, t⟩, hr⟩ : ∃ r, r = takeR 18446744073709551615 s := ⟨_, rfl⟩
  rw [← hr] at hm ⊢
  dsimp only at hm ⊢
  have HR := Lib.hid hr
  clear hr
  have ea := and_1 n (by omega)
  by_cases hn : n % 2 = 0
  · have ex := xor_zero ((n / 2 : Nat) : Int) (by omega) (by omega)
    have eu := unzz_even hn
    rw [hn] at ea
    have ed : ((n / 2 : Nat) : Int) = (n : Int) / 2 := by omega
    rw [ed] at ex eu
    have EU := Lib.hid eu
    have HN := Lib.hid hn
    clear eu hn ed
    go_enter Try.func39, Try.ntmps39
    go_wp2_with (go_at_call 40; refine (takeC g s 0 18446744073709551615 hs (by decide) _ h).mono ?_; rintro e w1 ⟨rfl, hr1, hg1⟩; rw [← HR.out] at hr1 ⊢)
    go_ret2
    exact ⟨by rw [EU.out]; rfl, hr1, hg1⟩
  · have ex := xor_m1 ((n / 2 : Nat) : Int) (by omega) (by omega)
    have eu := unzz_odd hn
    have hn1 : n % 2 = 1 := by omega
    rw [hn1] at ea
    have ed : ((n / 2 : Nat) : Int) = (n : Int) / 2 := by omega
    rw [ed] at ex eu
    have EU := Lib.hid eu
    have HN := Lib.hid hn
    clear eu hn ed hn1
    go_enter Try.func39, Try.ntmps39
    go_wp2_with (go_at_call 40; refine (takeC g s 0 18446744073709551615 hs (by decide) _ h).mono ?_; rintro e w1 ⟨rfl, hr1, hg1⟩; rw [← HR.out] at hr1 ⊢)
    go_ret2
    exact ⟨by rw [EU.out]; rfl, hr1, hg1⟩
theorem int_of {st : St} {n : Nat} {c : Int} {t : St} (h : rdNum 18446744073709551615 st = (n, c, t)) : intS st = (unzz n, c, t) := by unfold intS; rw [h]
theorem readIntC (g bx : Nat) (st : St) (hs : st.s.size ≤ 1099511627776) (w : World) (h : Rd g st.s st.e w) (hb : w.cell? ⟨bx, 0, none⟩ = some (.pointer (some ⟨g, 0, none⟩))) :
    Calls Try.prog 38 #[.pointer (some ⟨g, 0, none⟩), .func (.func 39) #[] #[.pointer (some ⟨bx, 0, none⟩)]] w (RPost g w (.tuple #[.int .i64 (intS st).1, .int .i64 (intS st).2.1]) (intS st).2.2) := by
  by_cases he : st.e = 0
  · obtain ⟨s, e⟩ := st
    dsimp only at he hs h
    subst he
    have c0 := h.c0
    have c1 := h.c1
    rcases rd_two 18446744073709551615 s with ⟨n, t, hr, hn, ht⟩ | ⟨c, hr, hc, ht⟩
    · have hr : intS ⟨s, 0⟩ = (unzz n, 0, ⟨t, 0⟩) := int_of hr
      rw [hr]
      have HT := Lib.hid ht
      clear ht hr
      go_enter Try.func38, Try.ntmps38
      go_wp2_with (go_at_call 39; refine (int1C g bx ⟨s, 0⟩ rfl hs _ h hb).mono ?_; rw [HT.out]; rintro e w1 ⟨rfl, hr1, hg1⟩)
      go_ret2
      exact ⟨rfl, hr1, hg1⟩
    · have hr : intS ⟨s, 0⟩ = (0, c, St.bad c) := int_of hr
      rw [hr]
      have HT := Lib.hid ht
      have hcb : (c != 0) = true := by simp; omega
      clear ht hr
      go_enter Try.func38, Try.ntmps38
      go_wp2_with (go_at_call 39; refine (int1C g bx ⟨s, 0⟩ rfl hs _ h hb).mono ?_; rw [HT.out]; rintro e w1 ⟨rfl, hr1, hg1⟩; have q0 := hr1.c0; have q1 := hr1.c1; have qf0 := hr1.fz 0; have qf1 := hr1.fz 1)
      go_ret2
      exact ⟨rfl, hr1.set0.set1, gr_trans hg1 (gr_trans (gr_set _ _ _ _) (gr_set _ _ _ _))⟩
  · have hr : intS st = (0, st.e, st) := int_of (rd_wrong he)
    rw [hr]
    have c0 := h.c0
    have c1 := h.c1
    have hcb : (st.e != 0) = true := by simpa using he
    clear hr he
    go_enter Try.func38, Try.ntmps38
    go_wp2_with fail
    go_quiet (fail)
    go_wp2_with fail
    go_ret2
    exact ⟨rfl, h.drewN nq, gr_drewN w nq _⟩
theorem intRC (g : Nat) (st : St) (hs : st.s.size ≤ 1099511627776) (w : World) (h : Rd g st.s st.e w) :
    Calls Try.prog 22 #[.pointer (some ⟨g, 0, none⟩)] w (RPost g w (.tuple #[.int .i64 (intS st).1, .int .i64 (intS st).2.1]) (intS st).2.2) := by
  go_enter Try.func22, Try.ntmps22
  go_wp2_with (go_at_call 38; refine (readIntC g w.heap.size st hs _ (h.alloc _) (by simp [go_sem])).mono ?_; rintro e w1 ⟨rfl, hr1, hg1⟩)
  go_ret2
  exact ⟨rfl, hr1, gr_trans (gr_alloc _ _ _) hg1⟩
theorem intNil (w : World) : Calls Try.prog 22 #[.pointer none] w fun e w' => e = .returned (.tuple #[.int .i64 0, .int .i64 2]) ∧ Below w.heap.size w w' := by
  have hread : ∀ (x : Value) (w1 : World), Calls Try.prog 38 #[.pointer none, x] w1 fun e w' => e = .returned (.tuple #[.int .i64 0, .int .i64 2]) ∧ w1 = w' := by
    intro x w1
    go_enter Try.func38, Try.ntmps38
    go_wp2_with fail
    go_ret2
    exact ⟨rfl, rfl⟩
  go_enter Try.func22, Try.ntmps22
  go_wp2_with (go_at_call 38; refine (hread _ _).mono ?_; rintro e w1 ⟨rfl, rfl⟩)
  go_ret2
  exact ⟨rfl, by (repeat' (first | (with_reducible exact Below.refl _ _) | (with_reducible assumption) | (with_reducible refine Below.alloc ?_ ?_ _) | (with_reducible refine Below.drew ?_) | (with_reducible refine below_drewN ?_ _) | (with_reducible refine Below.setCell ?_ ?_ _) | (with_reducible refine Below.trans ?_ (Below.mono (by with_reducible assumption) ?_)) | (simp only [World.size_alloc, World.size_setCell, World.heap_drewN, World.size_drew]; omega) | omega | (simp; omega) | (simp; done)))⟩
end Go.Proofs.Ytijhdnpaeliaoaa.Wh
