/- value.mul, the five closures of value.numbers, and value.numbers itself, as contracts of their calls. Conditions: the numbers' own range. -/
import Derived.Test.YtgkdmccceegifaaVa
namespace Go.Proofs.Ytgkdmccceegifaa.Vb
open Go.RowKit Go.Proofs.Ytgkdmccceegifaa.Vm Go.Proofs.Ytgkdmccceegifaa.Va
set_option linter.unusedVariables false
set_option linter.unusedSimpArgs false

theorem mulC (a b : Int) (w : World) : Calls Try.prog 36 #[.int .i64 a, .int .i64 b] w fun e w' => e = .returned (.tuple #[.int .i64 (mul a b).1, .bool (mul a b).2]) ∧ Below w.heap.size w w' := by
  by_cases h : a = 0 ∨ b = 0
  · have hm : mul a b = (0, true) := by simp [mul, h]
    have HM := Lib.hid hm
    clear hm
    have h1 : (a == 0 || b == 0) = true := by simpa using h
    go_enter Try.func36, Try.ntmps36
    by_cases ha : a = 0
    · have hx : (a == 0) = true := by simp [ha]
      clear ha h h1
      go_wp2
      go_returns
      exact ⟨by rw [HM.out]; rfl, by (repeat' (first | (with_reducible exact Below.refl _ _) | (with_reducible assumption) | (with_reducible refine Below.alloc ?_ ?_ _) | (with_reducible refine Below.drew ?_) | (with_reducible refine below_drewN ?_ _) | (with_reducible refine Below.setCell ?_ ?_ _) | (with_reducible refine Below.trans ?_ (Below.mono (by with_reducible assumption) ?_)) | (simp only [World.size_alloc, World.size_setCell, World.heap_drewN, World.size_drew]; omega) | omega | (simp; omega) | (simp; done)))⟩
    · have hx : (a == 0) = false := by simp [ha]
      have hy : (b == 0) = true := by simp; omega
      clear ha h h1
      go_wp2
      go_returns
      exact ⟨by rw [HM.out]; rfl, by (repeat' (first | (with_reducible exact Below.refl _ _) | (with_reducible assumption) | (with_reducible refine Below.alloc ?_ ?_ _) | (with_reducible refine Below.drew ?_) | (with_reducible refine below_drewN ?_ _) | (with_reducible refine Below.setCell ?_ ?_ _) | (with_reducible refine Below.trans ?_ (Below.mono (by with_reducible assumption) ?_)) | (simp only [World.size_alloc, World.size_setCell, World.heap_drewN, World.size_drew]; omega) | omega | (simp; omega) | (simp; done)))⟩
  · have hx : (a == 0) = false := by simp; omega
    have hy : (b == 0) = false := by simp; omega
    have hb0 : ¬ b = 0 := by omega
    by_cases h2 : (a = -1 ∧ b = lo) ∨ (b = -1 ∧ a = lo)
    · have hm : mul a b = (0, false) := by simp [mul, h, h2]
      have HM := Lib.hid hm
      clear hm
      unfold lo at h2
      by_cases h3 : a = -1 ∧ b = -9223372036854775808
      · have k1 : (a == -1) = true := by simp [h3.1]
        have k2 : (b == -9223372036854775808) = true := by simp [h3.2]
        clear h h2 h3 hb0
        go_enter Try.func36, Try.ntmps36
        go_wp2
        go_returns
        exact ⟨by rw [HM.out]; rfl, by (repeat' (first | (with_reducible exact Below.refl _ _) | (with_reducible assumption) | (with_reducible refine Below.alloc ?_ ?_ _) | (with_reducible refine Below.drew ?_) | (with_reducible refine below_drewN ?_ _) | (with_reducible refine Below.setCell ?_ ?_ _) | (with_reducible refine Below.trans ?_ (Below.mono (by with_reducible assumption) ?_)) | (simp only [World.size_alloc, World.size_setCell, World.heap_drewN, World.size_drew]; omega) | omega | (simp; omega) | (simp; done)))⟩
      · have h4 : b = -1 ∧ a = -9223372036854775808 := by omega
        have k1 : (a == -1) = false := by simp [h4.2]
        have k2 : (b == -1) = true := by simp [h4.1]
        have k3 : (a == -9223372036854775808) = true := by simp [h4.2]
        clear h h2 h3 hb0 h4
        go_enter Try.func36, Try.ntmps36
        go_wp2
        go_returns
        exact ⟨by rw [HM.out]; rfl, by (repeat' (first | (with_reducible exact Below.refl _ _) | (with_reducible assumption) | (with_reducible refine Below.alloc ?_ ?_ _) | (with_reducible refine Below.drew ?_) | (with_reducible refine below_drewN ?_ _) | (with_reducible refine Below.setCell ?_ ?_ _) | (with_reducible refine Below.trans ?_ (Below.mono (by with_reducible assumption) ?_)) | (simp only [World.size_alloc, World.size_setCell, World.heap_drewN, World.size_drew]; omega) | omega | (simp; omega) | (simp; done)))⟩
    · have hm : mul a b = (wrap64 (a * b), wrap64 ((wrap64 (a * b)).tdiv b) == a) := by simp [mul, h, h2]
      have HM := Lib.hid hm
      clear hm
      have k : ((a == -1 && b == -9223372036854775808) || (b == -1 && a == -9223372036854775808)) = false := by
        unfold lo at h2
        rw [Bool.eq_false_iff]
        simp only [ne_eq, Bool.or_eq_true, Bool.and_eq_true, beq_iff_eq]
        exact h2
      clear h2 h
      cases e1 : (a == -1) <;> cases e2 : (b == -9223372036854775808) <;> cases e3 : (b == -1) <;> cases e4 : (a == -9223372036854775808)
      all_goals first
        | (exfalso; simp [e1, e2, e3, e4] at k; done)
        | (clear k
           go_enter Try.func36, Try.ntmps36
           go_wp2_with fail
           go_quiet (fail)
           go_wp2
           go_returns
           exact ⟨by rw [HM.out]; rfl, by (repeat' (first | (with_reducible exact Below.refl _ _) | (with_reducible assumption) | (with_reducible refine Below.alloc ?_ ?_ _) | (with_reducible refine Below.drew ?_) | (with_reducible refine below_drewN ?_ _) | (with_reducible refine Below.setCell ?_ ?_ _) | (with_reducible refine Below.trans ?_ (Below.mono (by with_reducible assumption) ?_)) | (simp only [World.size_alloc, World.size_setCell, World.heap_drewN, World.size_drew]; omega) | omega | (simp; omega) | (simp; done)))⟩)

/-! The closures: what they captured lies behind pointers. -/
theorem k1C (x y : Addr) (a b : Int) (w : World) (hx : w.cell? x = some (.int .i64 a)) (hy : w.cell? y = some (.int .i64 b)) :
    Calls Try.prog 35 #[.pointer (some x), .pointer (some y)] w fun e w' => e = .returned (.tuple #[.int .i64 (mul a b).1, .bool (mul a b).2]) ∧ Below w.heap.size w w' := by
  go_enter Try.func35, Try.ntmps35
  go_wp2_with (go_at_call 36; refine (mulC a b _).mono ?_; rintro e w1 ⟨rfl, hb1⟩; have zhb1 := hb1.size; (try simp only [World.size_alloc, World.size_setCell, World.heap_drewN, World.size_drew] at zhb1))
  go_returns
  exact ⟨rfl, by (repeat' (first | (with_reducible exact Below.refl _ _) | (with_reducible assumption) | (with_reducible refine Below.alloc ?_ ?_ _) | (with_reducible refine Below.drew ?_) | (with_reducible refine below_drewN ?_ _) | (with_reducible refine Below.setCell ?_ ?_ _) | (with_reducible refine Below.trans ?_ (Below.mono (by with_reducible assumption) ?_)) | (simp only [World.size_alloc, World.size_setCell, World.heap_drewN, World.size_drew]; omega) | omega | (simp; omega) | (simp; done)))⟩
theorem k2C (x y z : Addr) (a b : Int) (c : Bool) (w : World) (hx : w.cell? x = some (.int .i64 a)) (hy : w.cell? y = some (.int .i64 b)) (hz : w.cell? z = some (.bool c)) (hb : ¬ b = 0) :
    Calls Try.prog 37 #[.pointer (some x), .pointer (some y), .pointer (some z)] w fun e w' => e = .returned (.tuple #[.int .i64 (wrap64 (a.tdiv b)), .bool c]) ∧ Below w.heap.size w w' := by
  go_enter Try.func37, Try.ntmps37
  go_wp2_with fail
  go_quiet (fail)
  go_wp2
  go_returns
  exact ⟨rfl, by (repeat' (first | (with_reducible exact Below.refl _ _) | (with_reducible assumption) | (with_reducible refine Below.alloc ?_ ?_ _) | (with_reducible refine Below.drew ?_) | (with_reducible refine below_drewN ?_ _) | (with_reducible refine Below.setCell ?_ ?_ _) | (with_reducible refine Below.trans ?_ (Below.mono (by with_reducible assumption) ?_)) | (simp only [World.size_alloc, World.size_setCell, World.heap_drewN, World.size_drew]; omega) | omega | (simp; omega) | (simp; done)))⟩
theorem k3C (x y z : Addr) (a b : Int) (c : Bool) (w : World) (hx : w.cell? x = some (.int .i64 a)) (hy : w.cell? y = some (.int .i64 b)) (hz : w.cell? z = some (.bool c)) (hb : ¬ b = 0) :
    Calls Try.prog 38 #[.pointer (some x), .pointer (some y), .pointer (some z)] w fun e w' => e = .returned (.tuple #[.int .i64 (a.tmod b), .bool c]) ∧ Below w.heap.size w w' := by
  go_enter Try.func38, Try.ntmps38
  go_wp2_with fail
  go_quiet (fail)
  go_wp2
  go_returns
  exact ⟨rfl, by (repeat' (first | (with_reducible exact Below.refl _ _) | (with_reducible assumption) | (with_reducible refine Below.alloc ?_ ?_ _) | (with_reducible refine Below.drew ?_) | (with_reducible refine below_drewN ?_ _) | (with_reducible refine Below.setCell ?_ ?_ _) | (with_reducible refine Below.trans ?_ (Below.mono (by with_reducible assumption) ?_)) | (simp only [World.size_alloc, World.size_setCell, World.heap_drewN, World.size_drew]; omega) | omega | (simp; omega) | (simp; done)))⟩
theorem k4C (x y : Addr) (a b : Int) (w : World) (hx : w.cell? x = some (.int .i64 a)) (hy : w.cell? y = some (.int .i64 b)) :
    Calls Try.prog 39 #[.pointer (some x), .pointer (some y)] w fun e w' => e = .returned (.tuple #[.int .i64 (wrap64 (a + b)), .bool (decide (wrap64 (a + b) < a) == decide (b < 0))]) ∧ Below w.heap.size w w' := by
  go_enter Try.func39, Try.ntmps39
  go_wp2_with fail
  go_quiet (fail)
  go_wp2
  go_returns
  exact ⟨rfl, by (repeat' (first | (with_reducible exact Below.refl _ _) | (with_reducible assumption) | (with_reducible refine Below.alloc ?_ ?_ _) | (with_reducible refine Below.drew ?_) | (with_reducible refine below_drewN ?_ _) | (with_reducible refine Below.setCell ?_ ?_ _) | (with_reducible refine Below.trans ?_ (Below.mono (by with_reducible assumption) ?_)) | (simp only [World.size_alloc, World.size_setCell, World.heap_drewN, World.size_drew]; omega) | omega | (simp; omega) | (simp; done)))⟩
theorem k5C (x y : Addr) (a b : Int) (w : World) (hx : w.cell? x = some (.int .i64 a)) (hy : w.cell? y = some (.int .i64 b)) :
    Calls Try.prog 40 #[.pointer (some x), .pointer (some y)] w fun e w' => e = .returned (.tuple #[.int .i64 (wrap64 (a - b)), .bool (decide (a < wrap64 (a - b)) == decide (b < 0))]) ∧ Below w.heap.size w w' := by
  go_enter Try.func40, Try.ntmps40
  go_wp2_with fail
  go_quiet (fail)
  go_wp2
  go_returns
  exact ⟨rfl, by (repeat' (first | (with_reducible exact Below.refl _ _) | (with_reducible assumption) | (with_reducible refine Below.alloc ?_ ?_ _) | (with_reducible refine Below.drew ?_) | (with_reducible refine below_drewN ?_ _) | (with_reducible refine Below.setCell ?_ ?_ _) | (with_reducible refine Below.trans ?_ (Below.mono (by with_reducible assumption) ?_)) | (simp only [World.size_alloc, World.size_setCell, World.heap_drewN, World.size_drew]; omega) | omega | (simp; omega) | (simp; done)))⟩
end Go.Proofs.Ytgkdmccceegifaa.Vb
