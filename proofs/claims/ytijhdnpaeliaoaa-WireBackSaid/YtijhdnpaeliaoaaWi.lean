/- Package wire's reader: Open, Left, End, Text, as contracts. Condition: the text is no longer than 2^40 bytes. -/
import Derived.Test.YtijhdnpaeliaoaaWh
import Derived.RegionTactic
import Derived.ChangeAlike
namespace Go.Proofs.Ytijhdnpaeliaoaa.Wi
open Go.RowKit Go.Proofs.Ytijhdnpaeliaoaa.Wm Go.Proofs.Ytijhdnpaeliaoaa.Wb Go.Proofs.Ytijhdnpaeliaoaa.Wa Go.Proofs.Ytijhdnpaeliaoaa.We Go.Proofs.Ytijhdnpaeliaoaa.Wf Go.Proofs.Ytijhdnpaeliaoaa.Wg Go.Proofs.Ytijhdnpaeliaoaa.Wh
set_option linter.unusedVariables false
set_option linter.unusedSimpArgs false
set_option maxRecDepth 100000
theorem openC (s : ByteArray) (w : World) : Calls Try.prog 21 #[.string s] w fun e w' => e = .returned (.pointer (some ⟨w.heap.size, 0, none⟩)) ∧ Rd w.heap.size s 0 w' ∧ Below w.heap.size w w' := by
  go_enter Try.func21, Try.ntmps21
  go_wp2_with fail
  go_ret
  exact ⟨rfl, ⟨by simp [go_sem], by simp [go_sem], fun j => by simp [go_sem]⟩, by (repeat' (first | (with_reducible exact Below.refl _ _) | (with_reducible assumption) | (with_reducible refine Below.alloc ?_ ?_ _) | (with_reducible refine Below.drew ?_) | (with_reducible refine below_drewN ?_ _) | (with_reducible refine Below.setCell ?_ ?_ _) | (with_reducible refine Below.trans ?_ (Below.mono (by with_reducible assumption) ?_)) | (simp only [World.size_alloc, World.size_setCell, World.heap_drewN, World.size_drew]; omega) | omega | (simp; omega) | (simp; done)))⟩
theorem leftC (g : Nat) (st : St) (w : World) (h : Rd g st.s st.e w) : Calls Try.prog 27 #[.pointer (some ⟨g, 0, none⟩)] w fun e w' => e = .returned (.int .i64 (st.s.size : Int)) ∧ w = w' := by
  have c0 := h.c0
  go_enter Try.func27, Try.ntmps27
  go_wp2_with fail
  go_ret
  exact ⟨rfl, rfl⟩
theorem leftNil (w : World) : Calls Try.prog 27 #[.pointer none] w fun e w' => e = .returned (.int .i64 0) ∧ w = w' := by
  go_enter Try.func27, Try.ntmps27
  go_wp2_with fail
  go_ret
  exact ⟨rfl, rfl⟩
theorem size0 {s : ByteArray} (h : s.size = 0) : s.toList = [] := by rw [Lib.toList_data]; exact List.eq_nil_of_length_eq_zero (by rw [Array.length_toList]; exact h)
theorem size0' {s : ByteArray} (h : ¬ s.size = 0) : ¬ s.toList = [] := by
  rw [Lib.toList_data]
  intro e
  have := congrArg List.length e
  rw [Array.length_toList] at this
  exact h this
theorem readEndC (g bx : Nat) (st : St) (w : World) (h : Rd g st.s st.e w) (hb : w.cell? ⟨bx, 0, none⟩ = some (.pointer (some ⟨g, 0, none⟩))) :
    Calls Try.prog 45 #[.pointer (some ⟨g, 0, none⟩), .func (.func 49) #[] #[.pointer (some ⟨bx, 0, none⟩)]] w (RPost g w (.tuple #[.int .i64 0, .int .i64 (endS st).1]) (endS st).2) := by
  have c0 := h.c0
  have c1 := h.c1
  have f0 := h.fz 0
  have f1 := h.fz 1
  by_cases he : st.e = 0
  · by_cases hz : st.s.size = 0
    · have hr : endS st = (0, st) := by unfold endS; rw [if_pos he, if_pos hz]
      rw [hr]
      have q1 := size0 hz
      have q2 : (!st.s.toList.isEmpty) = false := by rw [q1]; rfl
      rw [he] at c1
      have HE := Lib.hid he
      clear he hz hr
      go_enter Try.func45, Try.ntmps45
      go_wp2
      go_ret2
      exact ⟨rfl, h, gr_refl _ _⟩
    · have hr : endS st = (4, St.bad 4) := by unfold endS; rw [if_pos he, if_neg hz]
      rw [hr]
      have q1 := size0' hz
      have q2 : (!st.s.toList.isEmpty) = true := by simpa using q1
      rw [he] at c1
      have HE := Lib.hid he
      clear he hz hr
      go_enter Try.func45, Try.ntmps45
      go_wp2
      go_ret2
      exact ⟨rfl, h.set0.set1, gr_trans (gr_set _ _ _ _) (gr_set _ _ _ _)⟩
  · have hr : endS st = (st.e, st) := by unfold endS; rw [if_neg he]
    rw [hr]
    have hcb : (st.e != 0) = true := by simpa using he
    clear hr he
    go_enter Try.func45, Try.ntmps45
    go_wp2_with fail
    go_quiet (fail)
    go_wp2_with fail
    go_ret2
    exact ⟨rfl, h.drewN nq, gr_drewN w nq _⟩
theorem endRC (g : Nat) (st : St) (w : World) (h : Rd g st.s st.e w) :
    Calls Try.prog 32 #[.pointer (some ⟨g, 0, none⟩)] w (RPost g w (.int .i64 (endS st).1) (endS st).2) := by
  go_enter Try.func32, Try.ntmps32
  go_wp2_with (go_at_call 45; refine (readEndC g w.heap.size st _ (h.alloc _) (by simp [go_sem])).mono ?_; rintro e w1 ⟨rfl, hr1, hg1⟩)
  go_ret
  exact ⟨rfl, hr1, gr_trans (gr_alloc _ _ _) hg1⟩
theorem endNil (w : World) : Calls Try.prog 32 #[.pointer none] w fun e w' => e = .returned (.int .i64 2) ∧ Below w.heap.size w w' := by
  have hread : ∀ (x : Value) (w1 : World), Calls Try.prog 45 #[.pointer none, x] w1 fun e w' => e = .returned (.tuple #[.int .i64 0, .int .i64 2]) ∧ w1 = w' := by
    intro x w1
    go_enter Try.func45, Try.ntmps45
    go_wp2_with fail
    go_ret2
    exact ⟨rfl, rfl⟩
  go_enter Try.func32, Try.ntmps32
  go_wp2_with (go_at_call 45; refine (hread _ _).mono ?_; rintro e w1 ⟨rfl, rfl⟩)
  go_ret
  exact ⟨rfl, by (repeat' (first | (with_reducible exact Below.refl _ _) | (with_reducible assumption) | (with_reducible refine Below.alloc ?_ ?_ _) | (with_reducible refine Below.drew ?_) | (with_reducible refine below_drewN ?_ _) | (with_reducible refine Below.setCell ?_ ?_ _) | (with_reducible refine Below.trans ?_ (Below.mono (by with_reducible assumption) ?_)) | (simp only [World.size_alloc, World.size_setCell, World.heap_drewN, World.size_drew]; omega) | omega | (simp; omega) | (simp; done)))⟩
/-- The ways of a text. -/
theorem num_two (s : ByteArray) : (∃ n t, numS ⟨s, 0⟩ = (n, 0, ⟨t, 0⟩) ∧ n ≤ 1099511627776 ∧ t.size ≤ s.size) ∨ (∃ c, numS ⟨s, 0⟩ = (0, c, St.bad c) ∧ (c = 4 ∨ c = 8)) := by
  rcases rd_two 1099511627776 s with ⟨n, t, hr, hn, ht⟩ | ⟨c, hr, hc, ht⟩
  · refine .inl ⟨n, t, hr, hn, ?_⟩
    have := takeR_left 1099511627776 s
    rw [ht] at this
    exact this
  · exact .inr ⟨c, hr, hc⟩
theorem bx_ne {g bx : Nat} {s : ByteArray} {e : Int} {v : Value} {w : World} (h : Rd g s e w) (hb : w.cell? ⟨bx, 0, none⟩ = some v) (hv : ∀ s, v ≠ .string s) : bx ≠ g := by
  rintro rfl
  rw [h.c0] at hb
  exact hv s (by injection hb with hb; exact hb.symm)
set_option maxHeartbeats 800000 in
theorem text1_no (g bx bm : Nat) (most : Int) (s : ByteArray) (hs : s.size ≤ 1099511627776) (w : World) (h : Rd g s 0 w) (hb : w.cell? ⟨bx, 0, none⟩ = some (.pointer (some ⟨g, 0, none⟩))) (hm : w.cell? ⟨bm, 0, none⟩ = some (.int .i64 most)) (c : Int) (hc : c ≠ 0) (hr : numS ⟨s, 0⟩ = (0, c, St.bad c)) :
    Calls Try.prog 42 #[.pointer (some ⟨bx, 0, none⟩), .pointer (some ⟨bm, 0, none⟩)] w (RPost g w (.tuple #[.string ⟨#[]⟩, .int .i64 c]) (St.bad c)) := by
  have hbg := bx_ne h hb (by simp)
  have hmg := bx_ne h hm (by simp)
  have HR := Lib.hid hr
  have hcb : (c != 0) = true := by simpa using hc
  clear hr
  go_enter Try.func42, Try.ntmps42
  go_wp2_with (go_at_call 25; refine (numRC g ⟨s, 0⟩ hs _ h).mono ?_; rw [HR.out]; rintro e w1 ⟨rfl, hr1, hg1⟩; have q0 := hr1.c0; have q1 := hr1.c1; have qf0 := hr1.fz 0; have qf1 := hr1.fz 1; have qb := cell_far hg1 hb hbg; have qm := cell_far hg1 hm hmg)
  go_ret2
  exact ⟨rfl, hr1, hg1⟩
theorem text1_large (g bx bm : Nat) (most : Int) (s : ByteArray) (hs : s.size ≤ 1099511627776) (w : World) (h : Rd g s 0 w) (hb : w.cell? ⟨bx, 0, none⟩ = some (.pointer (some ⟨g, 0, none⟩))) (hm : w.cell? ⟨bm, 0, none⟩ = some (.int .i64 most)) (n : Nat) (t : ByteArray) (hr : numS ⟨s, 0⟩ = (n, 0, ⟨t, 0⟩)) (h1 : most < n) :
    Calls Try.prog 42 #[.pointer (some ⟨bx, 0, none⟩), .pointer (some ⟨bm, 0, none⟩)] w (RPost g w (.tuple #[.string ⟨#[]⟩, .int .i64 40]) ⟨t, 0⟩) := by
  have hbg := bx_ne h hb (by simp)
  have hmg := bx_ne h hm (by simp)
  have HR := Lib.hid hr
  have t1 : decide (most < (n : Int)) = true := by simpa using h1
  clear hr
  go_enter Try.func42, Try.ntmps42
  go_wp2_with (go_at_call 25; refine (numRC g ⟨s, 0⟩ hs _ h).mono ?_; rw [HR.out]; rintro e w1 ⟨rfl, hr1, hg1⟩; have q0 := hr1.c0; have q1 := hr1.c1; have qf0 := hr1.fz 0; have qf1 := hr1.fz 1; have qb := cell_far hg1 hb hbg; have qm := cell_far hg1 hm hmg)
  go_ret2
  exact ⟨rfl, hr1, hg1⟩
theorem text1_short (g bx bm : Nat) (most : Int) (s : ByteArray) (hs : s.size ≤ 1099511627776) (w : World) (h : Rd g s 0 w) (hb : w.cell? ⟨bx, 0, none⟩ = some (.pointer (some ⟨g, 0, none⟩))) (hm : w.cell? ⟨bm, 0, none⟩ = some (.int .i64 most)) (n : Nat) (t : ByteArray) (hr : numS ⟨s, 0⟩ = (n, 0, ⟨t, 0⟩)) (h1 : ¬ most < n) (h2 : t.size < n) :
    Calls Try.prog 42 #[.pointer (some ⟨bx, 0, none⟩), .pointer (some ⟨bm, 0, none⟩)] w (RPost g w (.tuple #[.string ⟨#[]⟩, .int .i64 8]) ⟨t, 0⟩) := by
  have hbg := bx_ne h hb (by simp)
  have hmg := bx_ne h hm (by simp)
  have HR := Lib.hid hr
  have t1 : decide (most < (n : Int)) = false := by simpa using h1
  have t2 : decide ((t.size : Int) < (n : Int)) = true := by simpa using h2
  have t3 : decide (t.size < n) = true := by simpa using h2
  clear hr
  go_enter Try.func42, Try.ntmps42
  go_wp2_with (go_at_call 25; refine (numRC g ⟨s, 0⟩ hs _ h).mono ?_; rw [HR.out]; rintro e w1 ⟨rfl, hr1, hg1⟩; have q0 := hr1.c0; have q1 := hr1.c1; have qf0 := hr1.fz 0; have qf1 := hr1.fz 1; have qb := cell_far hg1 hb hbg; have qm := cell_far hg1 hm hmg)
  go_ret2
  exact ⟨rfl, hr1, hg1⟩
theorem text1_ok (g bx bm : Nat) (most : Int) (s : ByteArray) (hs : s.size ≤ 1099511627776) (w : World) (h : Rd g s 0 w) (hb : w.cell? ⟨bx, 0, none⟩ = some (.pointer (some ⟨g, 0, none⟩))) (hm : w.cell? ⟨bm, 0, none⟩ = some (.int .i64 most)) (n : Nat) (t : ByteArray) (hr : numS ⟨s, 0⟩ = (n, 0, ⟨t, 0⟩)) (h1 : ¬ most < n) (h2 : ¬ t.size < n) :
    Calls Try.prog 42 #[.pointer (some ⟨bx, 0, none⟩), .pointer (some ⟨bm, 0, none⟩)] w (RPost g w (.tuple #[.string (t.extract 0 n), .int .i64 0]) ⟨t.extract n t.size, 0⟩) := by
  have hbg := bx_ne h hb (by simp)
  have hmg := bx_ne h hm (by simp)
  have HR := Lib.hid hr
  have t1 : decide (most < (n : Int)) = false := by simpa using h1
  have t2 : decide ((t.size : Int) < (n : Int)) = false := by simpa using h2
  have t3 : decide (t.size < n) = false := by simpa using h2
  have t4 : (n : Int) ≤ (t.size : Int) := by omega
  have t5 : n ≤ t.size := by omega
  clear hr
  go_enter Try.func42, Try.ntmps42
  go_wp2_with (go_at_call 25; refine (numRC g ⟨s, 0⟩ hs _ h).mono ?_; rw [HR.out]; rintro e w1 ⟨rfl, hr1, hg1⟩; have q0 := hr1.c0; have q1 := hr1.c1; have qf0 := hr1.fz 0; have qf1 := hr1.fz 1; have qb := cell_far hg1 hb hbg; have qm := cell_far hg1 hm hmg)
  go_region
  go_wp2_with fail
  go_ret2
  exact ⟨rfl, Rd.set0 (hr1.drewN 1), gr_trans hg1 (gr_trans (gr_drewN _ 1 _) (gr_set _ _ _ _))⟩
set_option maxHeartbeats 800000 in
theorem readTextC (g bx bm : Nat) (most : Int) (st : St) (hs : st.s.size ≤ 1099511627776) (w : World) (h : Rd g st.s st.e w) (hb : w.cell? ⟨bx, 0, none⟩ = some (.pointer (some ⟨g, 0, none⟩))) (hm : w.cell? ⟨bm, 0, none⟩ = some (.int .i64 most)) :
    Calls Try.prog 41 #[.pointer (some ⟨g, 0, none⟩), .func (.func 42) #[] #[.pointer (some ⟨bx, 0, none⟩), .pointer (some ⟨bm, 0, none⟩)]] w (RPost g w (.tuple #[.string (textS most st).1, .int .i64 (textS most st).2.1]) (textS most st).2.2) := by
  have c0 := h.c0
  have c1 := h.c1
  by_cases he : st.e = 0
  · obtain ⟨s, e⟩ := st
    dsimp only at he hs h c0 c1
    subst he
    rcases num_two s with ⟨n, t, hr, hn, ht⟩ | ⟨c, hr, hc⟩
    · have HR := Lib.hid hr
      clear hr
      by_cases h1 : most < n
      · have hx : textS most ⟨s, 0⟩ = (⟨#[]⟩, 40, St.bad 40) := by unfold textS; rw [HR.out]; simp only; rw [if_pos trivial, if_pos h1]
        rw [hx]
        clear hx
        go_enter Try.func41, Try.ntmps41
        go_wp2_with (go_at_call 42; refine (text1_large g bx bm most s hs _ h hb hm n t HR.out h1).mono ?_; rintro e w1 ⟨rfl, hr1, hg1⟩; have q0 := hr1.c0; have q1 := hr1.c1; have qf0 := hr1.fz 0; have qf1 := hr1.fz 1)
        go_ret2
        exact ⟨rfl, hr1.set0.set1, gr_trans hg1 (gr_trans (gr_set _ _ _ _) (gr_set _ _ _ _))⟩
      · by_cases h2 : t.size < n
        · have hx : textS most ⟨s, 0⟩ = (⟨#[]⟩, 8, St.bad 8) := by unfold textS; rw [HR.out]; simp only; rw [if_pos trivial, if_neg h1, if_pos h2]
          rw [hx]
          clear hx
          go_enter Try.func41, Try.ntmps41
          go_wp2_with (go_at_call 42; refine (text1_short g bx bm most s hs _ h hb hm n t HR.out h1 h2).mono ?_; rintro e w1 ⟨rfl, hr1, hg1⟩; have q0 := hr1.c0; have q1 := hr1.c1; have qf0 := hr1.fz 0; have qf1 := hr1.fz 1)
          go_ret2
          exact ⟨rfl, hr1.set0.set1, gr_trans hg1 (gr_trans (gr_set _ _ _ _) (gr_set _ _ _ _))⟩
        · have hx : textS most ⟨s, 0⟩ = (t.extract 0 n, 0, ⟨t.extract n t.size, 0⟩) := by unfold textS; rw [HR.out]; simp only; rw [if_pos trivial, if_neg h1, if_neg h2]
          rw [hx]
          clear hx
          go_enter Try.func41, Try.ntmps41
          go_wp2_with (go_at_call 42; refine (text1_ok g bx bm most s hs _ h hb hm n t HR.out h1 h2).mono ?_; rintro e w1 ⟨rfl, hr1, hg1⟩; have q0 := hr1.c0; have q1 := hr1.c1; have qf0 := hr1.fz 0; have qf1 := hr1.fz 1)
          go_ret2
          exact ⟨rfl, hr1, hg1⟩
    · have HR := Lib.hid hr
      have hc0 : c ≠ 0 := by omega
      have hcb : (c != 0) = true := by simpa using hc0
      have HC := Lib.hid hc0
      clear hr hc0
      have hx : textS most ⟨s, 0⟩ = (⟨#[]⟩, c, St.bad c) := by unfold textS; rw [HR.out]; simp only; rw [if_neg HC.out]
      rw [hx]
      clear hx
      go_enter Try.func41, Try.ntmps41
      go_wp2_with (go_at_call 42; refine (text1_no g bx bm most s hs _ h hb hm c HC.out HR.out).mono ?_; rintro e w1 ⟨rfl, hr1, hg1⟩; have q0 := hr1.c0; have q1 := hr1.c1; have qf0 := hr1.fz 0; have qf1 := hr1.fz 1)
      go_ret2
      exact ⟨rfl, hr1.set0.set1, gr_trans hg1 (gr_trans (gr_set _ _ _ _) (gr_set _ _ _ _))⟩
  · have hr : textS most st = (⟨#[]⟩, st.e, st) := by unfold textS; rw [show numS st = (0, st.e, st) from rd_wrong he]; simp only; rw [if_neg he]
    rw [hr]
    have hcb : (st.e != 0) = true := by simpa using he
    clear hr he
    go_enter Try.func41, Try.ntmps41
    go_wp2_with fail
    go_quiet (fail)
    go_wp2_with fail
    go_ret2
    exact ⟨rfl, h.drewN nq, gr_drewN w nq _⟩
theorem textRC (g : Nat) (most : Int) (st : St) (hs : st.s.size ≤ 1099511627776) (w : World) (h : Rd g st.s st.e w) :
    Calls Try.prog 23 #[.pointer (some ⟨g, 0, none⟩), .int .i64 most] w (RPost g w (.tuple #[.string (textS most st).1, .int .i64 (textS most st).2.1]) (textS most st).2.2) := by
  go_enter Try.func23, Try.ntmps23
  go_wp2_with (go_at_call 41; refine (readTextC g w.heap.size (w.heap.size + 1) most st hs _ ((h.alloc _).alloc _) (by simp [go_sem]) (by simp [go_sem])).mono ?_; rintro e w1 ⟨rfl, hr1, hg1⟩)
  go_ret2
  exact ⟨rfl, hr1, gr_trans (gr_trans (gr_alloc _ _ _) (gr_alloc _ _ _)) hg1⟩
theorem textNil (most : Int) (w : World) : Calls Try.prog 23 #[.pointer none, .int .i64 most] w fun e w' => e = .returned (.tuple #[.string ⟨#[]⟩, .int .i64 2]) ∧ Below w.heap.size w w' := by
  have hread : ∀ (x : Value) (w1 : World), Calls Try.prog 41 #[.pointer none, x] w1 fun e w' => e = .returned (.tuple #[.string ⟨#[]⟩, .int .i64 2]) ∧ w1 = w' := by
    intro x w1
    go_enter Try.func41, Try.ntmps41
    go_wp2_with fail
    go_ret2
    exact ⟨rfl, rfl⟩
  go_enter Try.func23, Try.ntmps23
  go_wp2_with (go_at_call 41; refine (hread _ _).mono ?_; rintro e w1 ⟨rfl, rfl⟩)
  go_ret2
  exact ⟨rfl, by (repeat' (first | (with_reducible exact Below.refl _ _) | (with_reducible assumption) | (with_reducible refine Below.alloc ?_ ?_ _) | (with_reducible refine Below.drew ?_) | (with_reducible refine below_drewN ?_ _) | (with_reducible refine Below.setCell ?_ ?_ _) | (with_reducible refine Below.trans ?_ (Below.mono (by with_reducible assumption) ?_)) | (simp only [World.size_alloc, World.size_setCell, World.heap_drewN, World.size_drew]; omega) | omega | (simp; omega) | (simp; done)))⟩
end Go.Proofs.Ytijhdnpaeliaoaa.Wi
