/- The reference's same and mul, as contracts of their calls. No condition but the numbers' own range. -/
import Derived.Test.YtgkdmccceegifaaVf
namespace Go.Proofs.Ytgkdmccceegifaa.Vf
open Go.RowKit Go.Proofs.Ytgkdmccceegifaa.Vm Go.Proofs.Ytgkdmccceegifaa.Va Go.Proofs.Ytgkdmccceegifaa.Vc Go.Proofs.Ytgkdmccceegifaa.Vt Go.Proofs.Ytgkdmccceegifaa.Vq
set_option linter.unusedVariables false
set_option linter.unusedSimpArgs false
set_option maxHeartbeats 2000000

attribute [local irreducible] lessB in
theorem rsameC (a b : V) (hab : a.k = b.k) (w : World) : Calls Try.prog 24 #[.agg #[.int .u8 a.k, .int .i64 a.n, .string a.t], .agg #[.int .u8 b.k, .int .i64 b.n, .string b.t]] w fun e w' => e = .returned (.bool (equal a b)) ∧ Below w.heap.size w w' := by
  by_cases h : a.k = 2
  · have h1 : (a.k == 2) = true := by simp [h]
    have HY := Lib.hid (show equal a b = (yes a == yes b) by simp [equal, h])
    have ha : yes ⟨2, a.n, a.t⟩ = yes a := by rw [← h]
    have hb : yes ⟨2, b.n, b.t⟩ = yes b := by rw [← h, hab]
    have HA := Lib.hid ha
    have HB := Lib.hid hb
    have hb2 : b.k = 2 := by omega
    clear ha hb hab
    go_enter Try.func24, Try.ntmps24
    go_wp2_with fail
    go_region_with (first | (go_at_call_of 25 (Value.string a.t); refine (ryesC ⟨2, a.n, a.t⟩ _).mono ?_; rintro e w1 ⟨rfl, hb1⟩; obtain ⟨chb1, fhb1⟩ := bcell hb1; have zhb1 := hb1.size; (try simp only [World.size_alloc, World.size_setCell, World.heap_drewN, World.size_drew] at zhb1)) | (go_at_call_of 25 (Value.string b.t); refine (ryesC ⟨2, b.n, b.t⟩ _).mono ?_; rintro e w2 ⟨rfl, hb2⟩; obtain ⟨chb2, fhb2⟩ := bcell hb2; have zhb2 := hb2.size; (try simp only [World.size_alloc, World.size_setCell, World.heap_drewN, World.size_drew] at zhb2)))
    all_goals
      go_wp2
      go_returns
      exact ⟨by rw [HY.out, ← HA.out, ← HB.out]; rfl, by (repeat' (first | (with_reducible exact Below.refl _ _) | (with_reducible assumption) | (with_reducible refine Below.alloc ?_ ?_ _) | (with_reducible refine Below.drew ?_) | (with_reducible refine below_drewN ?_ _) | (with_reducible refine Below.setCell ?_ ?_ _) | (with_reducible refine Below.trans ?_ (Below.mono (by with_reducible assumption) ?_)) | (simp only [World.size_alloc, World.size_setCell, World.heap_drewN, World.size_drew]; omega) | omega | (simp; omega) | (simp; done)))⟩
  · have h1 : (a.k == 2) = false := by simp [h]
    have he : equal a b = (!lessB a b && !lessB b a) := by
      rw [← (order_less a b hab).2.2]
      simp [equal, h]
    have HY := Lib.hid he
    clear he hab h
    cases hl : lessB a b
    · have HL := Lib.hid hl
      clear hl
      go_enter Try.func24, Try.ntmps24
      go_wp2_with fail
      refine (rlessR a b _ HL.out _).mono ?_
      rintro e w1 ⟨rfl, hb1⟩; obtain ⟨chb1, fhb1⟩ := bcell hb1; have zhb1 := hb1.size; (try simp only [World.size_alloc, World.size_setCell, World.heap_drewN, World.size_drew] at zhb1); have zzhb10 : w.heap.size < w1.heap.size := (by omega); have zzhb11 : w.heap.size + 1 < w1.heap.size := (by omega)
      go_wp2_with fail
      refine (rlessC b a _).mono ?_
      rintro e w2 ⟨rfl, hb2⟩; obtain ⟨chb2, fhb2⟩ := bcell hb2; have zhb2 := hb2.size; (try simp only [World.size_alloc, World.size_setCell, World.heap_drewN, World.size_drew] at zhb2); have zzhb20 : w.heap.size < w2.heap.size := (by omega); have zzhb21 : w.heap.size + 1 < w2.heap.size := (by omega)
      go_wp2_with fail
      go_returns
      exact ⟨by rw [HY.out, HL.out]; rfl, by (repeat' (first | (with_reducible exact Below.refl _ _) | (with_reducible assumption) | (with_reducible refine Below.alloc ?_ ?_ _) | (with_reducible refine Below.drew ?_) | (with_reducible refine below_drewN ?_ _) | (with_reducible refine Below.setCell ?_ ?_ _) | (with_reducible refine Below.trans ?_ (Below.mono (by with_reducible assumption) ?_)) | (simp only [World.size_alloc, World.size_setCell, World.heap_drewN, World.size_drew]; omega) | omega | (simp; omega) | (simp; done)))⟩
    · have HL := Lib.hid hl
      clear hl
      go_enter Try.func24, Try.ntmps24
      go_wp2_with (go_at_call 23; refine (rlessR a b _ HL.out _).mono ?_; rintro e w1 ⟨rfl, hb1⟩; obtain ⟨chb1, fhb1⟩ := bcell hb1; have zhb1 := hb1.size; (try simp only [World.size_alloc, World.size_setCell, World.heap_drewN, World.size_drew] at zhb1); have zzhb10 : w.heap.size < w1.heap.size := (by omega); have zzhb11 : w.heap.size + 1 < w1.heap.size := (by omega))
      go_returns
      exact ⟨by rw [HY.out, HL.out]; rfl, by (repeat' (first | (with_reducible exact Below.refl _ _) | (with_reducible assumption) | (with_reducible refine Below.alloc ?_ ?_ _) | (with_reducible refine Below.drew ?_) | (with_reducible refine below_drewN ?_ _) | (with_reducible refine Below.setCell ?_ ?_ _) | (with_reducible refine Below.trans ?_ (Below.mono (by with_reducible assumption) ?_)) | (simp only [World.size_alloc, World.size_setCell, World.heap_drewN, World.size_drew]; omega) | omega | (simp; omega) | (simp; done)))⟩

theorem mulPP {a b : Int} (ha : R a) (hb : R b) (h1 : 0 < a) (h2 : 0 < b) : ((9223372036854775807 : Int) / b < a) ↔ ¬ R (a * b) := by
  have h3 : (9223372036854775807 : Int) / b ≤ 9223372036854775807 := Int.ediv_le_self _ (by decide)
  have h4 : 0 ≤ (9223372036854775807 : Int) / b := Int.ediv_nonneg (by decide) (by omega)
  have h5 : (9223372036854775807 : Int) / b < a ↔ 9223372036854775807 < a * b := Int.ediv_lt_iff_lt_mul h2
  have h6 : 0 < a * b := Int.mul_pos h1 h2
  rw [h5]
  unfold R
  generalize a * b = p at *
  omega
theorem mulNP {a b : Int} (ha : R a) (hb : R b) (h1 : a < 0) (h2 : 0 < b) : (a < wrap64 (-(9223372036854775808 : Int).tdiv b)) ↔ ¬ R (a * b) := by
  rw [Int.tdiv_eq_ediv_of_nonneg (by decide)]
  have h3 : (9223372036854775808 : Int) / b ≤ 9223372036854775808 := Int.ediv_le_self _ (by decide)
  have h4 : 0 ≤ (9223372036854775808 : Int) / b := Int.ediv_nonneg (by decide) (by omega)
  have h5 : (9223372036854775808 : Int) / b < -a ↔ 9223372036854775808 < -a * b := Int.ediv_lt_iff_lt_mul h2
  have h6 : 0 < -a * b := Int.mul_pos (by omega) h2
  rw [Int.neg_mul] at h5 h6
  rw [wrap_of (by unfold R; omega)]
  unfold R
  generalize a * b = p at *
  omega
theorem mulNN {a b : Int} (ha : R a) (hb : R b) (h1 : a < 0) (h2 : b < 0) (h3 : a ≠ -9223372036854775808) (h4 : b ≠ -9223372036854775808) : (wrap64 ((9223372036854775807 : Int).tdiv (wrap64 (-b))) < wrap64 (-a)) ↔ ¬ R (a * b) := by
  unfold R at ha hb
  rw [wrap_of (x := -b) (by unfold R; omega), wrap_of (x := -a) (by unfold R; omega), Int.tdiv_eq_ediv_of_nonneg (by decide), wrap_of (x := 9223372036854775807 / -b) ?_, mulPP (by unfold R; omega) (by unfold R; omega) (by omega) (by omega), Int.neg_mul_neg]
  have h5 : (9223372036854775807 : Int) / -b ≤ 9223372036854775807 := Int.ediv_le_self _ (by decide)
  have h6 : 0 ≤ (9223372036854775807 : Int) / -b := Int.ediv_nonneg (by decide) (by omega)
  unfold R
  omega
theorem mulLN {b : Int} (h2 : b < 0) : ¬ R (-9223372036854775808 * b) := by unfold R; omega
theorem rmul_no {a b : Int} (h : ¬ R (a * b)) : rmul a b = (0, false) := if_neg h
theorem rmul_yes {a b : Int} (h : R (a * b)) : rmul a b = (wrap64 (a * b), true) := by rw [wrap_of h]; exact if_pos h
set_option maxHeartbeats 2000000 in
theorem rmulC (a b : Int) (ha : R a) (hb : R b) (w : World) : Calls Try.prog 27 #[.int .i64 a, .int .i64 b] w fun e w' => e = .returned (.tuple #[.int .i64 (rmul a b).1, .bool (rmul a b).2]) ∧ Below w.heap.size w w' := by
  by_cases z1 : a = 0
  · subst z1
    have HR := Lib.hid (show rmul 0 b = (0, true) by unfold rmul; rw [Int.zero_mul]; rfl)
    clear ha hb
    go_enter Try.func27, Try.ntmps27
    go_wp2
    go_returns
    exact ⟨by rw [HR.out]; rfl, by (repeat' (first | (with_reducible exact Below.refl _ _) | (with_reducible assumption) | (with_reducible refine Below.alloc ?_ ?_ _) | (with_reducible refine Below.drew ?_) | (with_reducible refine below_drewN ?_ _) | (with_reducible refine Below.setCell ?_ ?_ _) | (with_reducible refine Below.trans ?_ (Below.mono (by with_reducible assumption) ?_)) | (simp only [World.size_alloc, World.size_setCell, World.heap_drewN, World.size_drew]; omega) | omega | (simp; omega) | (simp; done)))⟩
  by_cases z2 : b = 0
  · subst z2
    have HR := Lib.hid (show rmul a 0 = (0, true) by unfold rmul; rw [Int.mul_zero]; rfl)
    have e1 : (a == 0) = false := by simp [z1]
    clear ha hb z1
    go_enter Try.func27, Try.ntmps27
    go_wp2
    go_returns
    exact ⟨by rw [HR.out]; rfl, by (repeat' (first | (with_reducible exact Below.refl _ _) | (with_reducible assumption) | (with_reducible refine Below.alloc ?_ ?_ _) | (with_reducible refine Below.drew ?_) | (with_reducible refine below_drewN ?_ _) | (with_reducible refine Below.setCell ?_ ?_ _) | (with_reducible refine Below.trans ?_ (Below.mono (by with_reducible assumption) ?_)) | (simp only [World.size_alloc, World.size_setCell, World.heap_drewN, World.size_drew]; omega) | omega | (simp; omega) | (simp; done)))⟩
  have e1 : (a == 0) = false := by simp [z1]
  have e2 : (b == 0) = false := by simp [z2]
  by_cases s1 : 0 < a
  · have s1n : ¬ a < 0 := by omega
    by_cases s2 : 0 < b
    · have s2n : ¬ b < 0 := by omega
      have HQ := mulPP ha hb s1 s2
      by_cases r : R (a * b)
      · have q : ¬ ((9223372036854775807 : Int) / b < a) := fun h => HQ.1 h r
        have HR := Lib.hid (rmul_yes r)
        clear ha hb HQ r z1 z2
        go_enter Try.func27, Try.ntmps27
        go_wp2
        go_returns
        exact ⟨by rw [HR.out]; rfl, by (repeat' (first | (with_reducible exact Below.refl _ _) | (with_reducible assumption) | (with_reducible refine Below.alloc ?_ ?_ _) | (with_reducible refine Below.drew ?_) | (with_reducible refine below_drewN ?_ _) | (with_reducible refine Below.setCell ?_ ?_ _) | (with_reducible refine Below.trans ?_ (Below.mono (by with_reducible assumption) ?_)) | (simp only [World.size_alloc, World.size_setCell, World.heap_drewN, World.size_drew]; omega) | omega | (simp; omega) | (simp; done)))⟩
      · have q : ((9223372036854775807 : Int) / b < a) := HQ.2 r
        have HR := Lib.hid (rmul_no r)
        clear ha hb HQ r z1 z2
        go_enter Try.func27, Try.ntmps27
        go_wp2
        go_returns
        exact ⟨by rw [HR.out]; rfl, by (repeat' (first | (with_reducible exact Below.refl _ _) | (with_reducible assumption) | (with_reducible refine Below.alloc ?_ ?_ _) | (with_reducible refine Below.drew ?_) | (with_reducible refine below_drewN ?_ _) | (with_reducible refine Below.setCell ?_ ?_ _) | (with_reducible refine Below.trans ?_ (Below.mono (by with_reducible assumption) ?_)) | (simp only [World.size_alloc, World.size_setCell, World.heap_drewN, World.size_drew]; omega) | omega | (simp; omega) | (simp; done)))⟩
    · have s2n : b < 0 := by omega
      have HQ := mulNP hb ha s2n s1
      rw [Int.mul_comm b a] at HQ
      by_cases r : R (a * b)
      · have q : ¬ (b < wrap64 (-(9223372036854775808 : Int).tdiv a)) := fun h => HQ.1 h r
        have HR := Lib.hid (rmul_yes r)
        clear ha hb HQ r z1 z2
        go_enter Try.func27, Try.ntmps27
        go_wp2
        go_returns
        exact ⟨by rw [HR.out]; rfl, by (repeat' (first | (with_reducible exact Below.refl _ _) | (with_reducible assumption) | (with_reducible refine Below.alloc ?_ ?_ _) | (with_reducible refine Below.drew ?_) | (with_reducible refine below_drewN ?_ _) | (with_reducible refine Below.setCell ?_ ?_ _) | (with_reducible refine Below.trans ?_ (Below.mono (by with_reducible assumption) ?_)) | (simp only [World.size_alloc, World.size_setCell, World.heap_drewN, World.size_drew]; omega) | omega | (simp; omega) | (simp; done)))⟩
      · have q : (b < wrap64 (-(9223372036854775808 : Int).tdiv a)) := HQ.2 r
        have HR := Lib.hid (rmul_no r)
        clear ha hb HQ r z1 z2
        go_enter Try.func27, Try.ntmps27
        go_wp2
        go_returns
        exact ⟨by rw [HR.out]; rfl, by (repeat' (first | (with_reducible exact Below.refl _ _) | (with_reducible assumption) | (with_reducible refine Below.alloc ?_ ?_ _) | (with_reducible refine Below.drew ?_) | (with_reducible refine below_drewN ?_ _) | (with_reducible refine Below.setCell ?_ ?_ _) | (with_reducible refine Below.trans ?_ (Below.mono (by with_reducible assumption) ?_)) | (simp only [World.size_alloc, World.size_setCell, World.heap_drewN, World.size_drew]; omega) | omega | (simp; omega) | (simp; done)))⟩
  · have s1n : a < 0 := by omega
    by_cases s2 : 0 < b
    · have s2n : ¬ b < 0 := by omega
      have HQ := mulNP ha hb s1n s2
      by_cases r : R (a * b)
      · have q : ¬ (a < wrap64 (-(9223372036854775808 : Int).tdiv b)) := fun h => HQ.1 h r
        have HR := Lib.hid (rmul_yes r)
        clear ha hb HQ r z1 z2
        go_enter Try.func27, Try.ntmps27
        go_wp2
        go_returns
        exact ⟨by rw [HR.out]; rfl, by (repeat' (first | (with_reducible exact Below.refl _ _) | (with_reducible assumption) | (with_reducible refine Below.alloc ?_ ?_ _) | (with_reducible refine Below.drew ?_) | (with_reducible refine below_drewN ?_ _) | (with_reducible refine Below.setCell ?_ ?_ _) | (with_reducible refine Below.trans ?_ (Below.mono (by with_reducible assumption) ?_)) | (simp only [World.size_alloc, World.size_setCell, World.heap_drewN, World.size_drew]; omega) | omega | (simp; omega) | (simp; done)))⟩
      · have q : (a < wrap64 (-(9223372036854775808 : Int).tdiv b)) := HQ.2 r
        have HR := Lib.hid (rmul_no r)
        clear ha hb HQ r z1 z2
        go_enter Try.func27, Try.ntmps27
        go_wp2
        go_returns
        exact ⟨by rw [HR.out]; rfl, by (repeat' (first | (with_reducible exact Below.refl _ _) | (with_reducible assumption) | (with_reducible refine Below.alloc ?_ ?_ _) | (with_reducible refine Below.drew ?_) | (with_reducible refine below_drewN ?_ _) | (with_reducible refine Below.setCell ?_ ?_ _) | (with_reducible refine Below.trans ?_ (Below.mono (by with_reducible assumption) ?_)) | (simp only [World.size_alloc, World.size_setCell, World.heap_drewN, World.size_drew]; omega) | omega | (simp; omega) | (simp; done)))⟩
    · have s2n : b < 0 := by omega
      by_cases l1 : a = -9223372036854775808
      · have HR := Lib.hid (rmul_no (a := a) (b := b) (by rw [l1]; exact mulLN s2n))
        have l1b : (a == -9223372036854775808) = true := by simp [l1]
        clear ha hb z1 z2 l1
        go_enter Try.func27, Try.ntmps27
        go_wp2
        go_returns
        exact ⟨by rw [HR.out]; rfl, by (repeat' (first | (with_reducible exact Below.refl _ _) | (with_reducible assumption) | (with_reducible refine Below.alloc ?_ ?_ _) | (with_reducible refine Below.drew ?_) | (with_reducible refine below_drewN ?_ _) | (with_reducible refine Below.setCell ?_ ?_ _) | (with_reducible refine Below.trans ?_ (Below.mono (by with_reducible assumption) ?_)) | (simp only [World.size_alloc, World.size_setCell, World.heap_drewN, World.size_drew]; omega) | omega | (simp; omega) | (simp; done)))⟩
      · have l1b : (a == -9223372036854775808) = false := by simp [l1]
        by_cases l2 : b = -9223372036854775808
        · have HR := Lib.hid (rmul_no (a := a) (b := b) (by rw [l2, Int.mul_comm]; exact mulLN s1n))
          have l2b : (b == -9223372036854775808) = true := by simp [l2]
          clear ha hb z1 z2 l1 l2
          go_enter Try.func27, Try.ntmps27
          go_wp2
          go_returns
          exact ⟨by rw [HR.out]; rfl, by (repeat' (first | (with_reducible exact Below.refl _ _) | (with_reducible assumption) | (with_reducible refine Below.alloc ?_ ?_ _) | (with_reducible refine Below.drew ?_) | (with_reducible refine below_drewN ?_ _) | (with_reducible refine Below.setCell ?_ ?_ _) | (with_reducible refine Below.trans ?_ (Below.mono (by with_reducible assumption) ?_)) | (simp only [World.size_alloc, World.size_setCell, World.heap_drewN, World.size_drew]; omega) | omega | (simp; omega) | (simp; done)))⟩
        · have l2b : (b == -9223372036854775808) = false := by simp [l2]
          have HQ := mulNN ha hb s1n s2n l1 l2
          have nb : wrap64 (-b) ≠ 0 := by
            unfold R at hb
            rw [wrap_of (by unfold R; omega)]
            omega
          have nbb : (wrap64 (-b) == 0) = false := by simp [nb]
          by_cases r : R (a * b)
          · have q : ¬ (wrap64 ((9223372036854775807 : Int).tdiv (wrap64 (-b))) < wrap64 (-a)) := fun h => HQ.1 h r
            have HR := Lib.hid (rmul_yes r)
            clear ha hb HQ r z1 z2 l1 l2
            go_enter Try.func27, Try.ntmps27
            go_wp2
            go_returns
            exact ⟨by rw [HR.out]; rfl, by (repeat' (first | (with_reducible exact Below.refl _ _) | (with_reducible assumption) | (with_reducible refine Below.alloc ?_ ?_ _) | (with_reducible refine Below.drew ?_) | (with_reducible refine below_drewN ?_ _) | (with_reducible refine Below.setCell ?_ ?_ _) | (with_reducible refine Below.trans ?_ (Below.mono (by with_reducible assumption) ?_)) | (simp only [World.size_alloc, World.size_setCell, World.heap_drewN, World.size_drew]; omega) | omega | (simp; omega) | (simp; done)))⟩
          · have q : (wrap64 ((9223372036854775807 : Int).tdiv (wrap64 (-b))) < wrap64 (-a)) := HQ.2 r
            have HR := Lib.hid (rmul_no r)
            clear ha hb HQ r z1 z2 l1 l2
            go_enter Try.func27, Try.ntmps27
            go_wp2
            go_returns
            exact ⟨by rw [HR.out]; rfl, by (repeat' (first | (with_reducible exact Below.refl _ _) | (with_reducible assumption) | (with_reducible refine Below.alloc ?_ ?_ _) | (with_reducible refine Below.drew ?_) | (with_reducible refine below_drewN ?_ _) | (with_reducible refine Below.setCell ?_ ?_ _) | (with_reducible refine Below.trans ?_ (Below.mono (by with_reducible assumption) ?_)) | (simp only [World.size_alloc, World.size_setCell, World.heap_drewN, World.size_drew]; omega) | omega | (simp; omega) | (simp; done)))⟩
end Go.Proofs.Ytgkdmccceegifaa.Vf
