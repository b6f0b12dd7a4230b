/- The functions under the reference's operator of two, as contracts of their calls. No condition but the numbers' own range. -/
import Derived.Test.YtgkdmccceegifaaVz
import Derived.Test.YtgkdmccceegifaaVq
import Derived.BigRegion
namespace Go.Proofs.Ytgkdmccceegifaa.Vf
open Go.RowKit Go.Proofs.Ytgkdmccceegifaa.Vm Go.Proofs.Ytgkdmccceegifaa.Va Go.Proofs.Ytgkdmccceegifaa.Vc Go.Proofs.Ytgkdmccceegifaa.Vt Go.Proofs.Ytgkdmccceegifaa.Vq
set_option linter.unusedVariables false
set_option linter.unusedSimpArgs false

def lessB (a b : V) : Bool := if a.k = 3 then Op.bytesLess a.t.data.toList b.t.data.toList else decide (a.n < b.n)
theorem order_less (a b : V) (h : a.k = b.k) : decide (order a b < 0) = lessB a b ∧ decide (order a b ≤ 0) = (!lessB b a) ∧ (order a b == 0) = (!lessB a b && !lessB b a) := by
  unfold order lessB
  by_cases hk : a.k = 3
  · have hk2 : b.k = 3 := by omega
    simp only [hk, hk2, if_true]
    rcases cmp_less a.t.data.toList b.t.data.toList with ⟨e1, e2, e3, _, _⟩ | ⟨e1, e2, e3⟩ | ⟨e1, e2, e3, _, _⟩
    · simp [e1, e2, e3]
    · rw [e1]
      rw [e2] at e3 ⊢
      simp [e3]
    · simp [e1, e2, e3]
  · have hk2 : b.k ≠ 3 := by omega
    simp only [hk, hk2, if_false]
    by_cases h1 : a.n < b.n
    · have h2 : ¬ b.n < a.n := by omega
      simp [h1, h2]
    · by_cases h2 : b.n < a.n
      · simp [h1, h2]
      · simp [h1, h2]
def radd (a b : Int) : Int × Bool := if R (a + b) then (a + b, true) else (0, false)
def rsub (a b : Int) : Int × Bool := if R (a - b) then (a - b, true) else (0, false)
def rmul (a b : Int) : Int × Bool := if R (a * b) then (a * b, true) else (0, false)
def told (n : Int) (ok : Bool) : V × Int := if ok then (num n, 0) else (V.zero, 20)
theorem rtruthC (b : Bool) (w : World) : Calls Try.prog 22 #[.bool b] w fun e w' => e = .returned (.agg #[.int .u8 2, .int .i64 (b2i b), .string ⟨#[]⟩]) ∧ Below w.heap.size w w' := by
  cases b
  all_goals
    go_enter Try.func22, Try.ntmps22
    go_wp2
    go_returns
    exact ⟨by first | rfl | simp [b2i], by (repeat' (first | (with_reducible exact Below.refl _ _) | (with_reducible assumption) | (with_reducible refine Below.alloc ?_ ?_ _) | (with_reducible refine Below.drew ?_) | (with_reducible refine below_drewN ?_ _) | (with_reducible refine Below.setCell ?_ ?_ _) | (with_reducible refine Below.trans ?_ (Below.mono (by with_reducible assumption) ?_)) | (simp only [World.size_alloc, World.size_setCell, World.heap_drewN, World.size_drew]; omega) | omega | (simp; omega) | (simp; done)))⟩
theorem rnumC (n : Int) (w : World) : Calls Try.prog 30 #[.int .i64 n] w fun e w' => e = .returned (.agg #[.int .u8 1, .int .i64 n, .string ⟨#[]⟩]) ∧ Below w.heap.size w w' := by
  go_enter Try.func30, Try.ntmps30
  go_wp2
  go_returns
  exact ⟨rfl, by (repeat' (first | (with_reducible exact Below.refl _ _) | (with_reducible assumption) | (with_reducible refine Below.alloc ?_ ?_ _) | (with_reducible refine Below.drew ?_) | (with_reducible refine below_drewN ?_ _) | (with_reducible refine Below.setCell ?_ ?_ _) | (with_reducible refine Below.trans ?_ (Below.mono (by with_reducible assumption) ?_)) | (simp only [World.size_alloc, World.size_setCell, World.heap_drewN, World.size_drew]; omega) | omega | (simp; omega) | (simp; done)))⟩
theorem ryesC (v : V) (w : World) : Calls Try.prog 25 #[.agg #[.int .u8 v.k, .int .i64 v.n, .string v.t]] w fun e w' => e = .returned (.bool (yes v)) ∧ Below w.heap.size w w' := by
  by_cases h : v.k = 2
  · have h1 : (v.k == 2) = true := by simp [h]
    have hy : yes v = (v.n != 0) := by simp [yes, h]
    go_enter Try.func25, Try.ntmps25
    go_wp2
    go_returns
    exact ⟨by rw [hy]; rfl, by (repeat' (first | (with_reducible exact Below.refl _ _) | (with_reducible assumption) | (with_reducible refine Below.alloc ?_ ?_ _) | (with_reducible refine Below.drew ?_) | (with_reducible refine below_drewN ?_ _) | (with_reducible refine Below.setCell ?_ ?_ _) | (with_reducible refine Below.trans ?_ (Below.mono (by with_reducible assumption) ?_)) | (simp only [World.size_alloc, World.size_setCell, World.heap_drewN, World.size_drew]; omega) | omega | (simp; omega) | (simp; done)))⟩
  · have h1 : (v.k == 2) = false := by simp [h]
    have hy : yes v = false := by simp [yes, h]
    go_enter Try.func25, Try.ntmps25
    go_wp2
    go_returns
    exact ⟨by rw [hy]; rfl, by (repeat' (first | (with_reducible exact Below.refl _ _) | (with_reducible assumption) | (with_reducible refine Below.alloc ?_ ?_ _) | (with_reducible refine Below.drew ?_) | (with_reducible refine below_drewN ?_ _) | (with_reducible refine Below.setCell ?_ ?_ _) | (with_reducible refine Below.trans ?_ (Below.mono (by with_reducible assumption) ?_)) | (simp only [World.size_alloc, World.size_setCell, World.heap_drewN, World.size_drew]; omega) | omega | (simp; omega) | (simp; done)))⟩
theorem rlessC (a b : V) (w : World) : Calls Try.prog 23 #[.agg #[.int .u8 a.k, .int .i64 a.n, .string a.t], .agg #[.int .u8 b.k, .int .i64 b.n, .string b.t]] w fun e w' => e = .returned (.bool (lessB a b)) ∧ Below w.heap.size w w' := by
  by_cases h : a.k = 3
  · have h1 : (a.k == 3) = true := by simp [h]
    have HY := Lib.hid (show lessB a b = Op.bytesLess a.t.data.toList b.t.data.toList by simp [lessB, h])
    go_enter Try.func23, Try.ntmps23
    go_wp2
    go_returns
    exact ⟨by rw [HY.out]; simp [ByteArray.toList_eq], by (repeat' (first | (with_reducible exact Below.refl _ _) | (with_reducible assumption) | (with_reducible refine Below.alloc ?_ ?_ _) | (with_reducible refine Below.drew ?_) | (with_reducible refine below_drewN ?_ _) | (with_reducible refine Below.setCell ?_ ?_ _) | (with_reducible refine Below.trans ?_ (Below.mono (by with_reducible assumption) ?_)) | (simp only [World.size_alloc, World.size_setCell, World.heap_drewN, World.size_drew]; omega) | omega | (simp; omega) | (simp; done)))⟩
  · have h1 : (a.k == 3) = false := by simp [h]
    have HY := Lib.hid (show lessB a b = decide (a.n < b.n) by simp [lessB, h])
    go_enter Try.func23, Try.ntmps23
    go_wp2
    go_returns
    exact ⟨by rw [HY.out]; rfl, by (repeat' (first | (with_reducible exact Below.refl _ _) | (with_reducible assumption) | (with_reducible refine Below.alloc ?_ ?_ _) | (with_reducible refine Below.drew ?_) | (with_reducible refine below_drewN ?_ _) | (with_reducible refine Below.setCell ?_ ?_ _) | (with_reducible refine Below.trans ?_ (Below.mono (by with_reducible assumption) ?_)) | (simp only [World.size_alloc, World.size_setCell, World.heap_drewN, World.size_drew]; omega) | omega | (simp; omega) | (simp; done)))⟩
theorem rlessR (a b : V) (r : Bool) (h : lessB a b = r) (w : World) : Calls Try.prog 23 #[.agg #[.int .u8 a.k, .int .i64 a.n, .string a.t], .agg #[.int .u8 b.k, .int .i64 b.n, .string b.t]] w fun e w' => e = .returned (.bool r) ∧ Below w.heap.size w w' := by
  subst h
  exact rlessC a b w
theorem rtoldC (n : Int) (ok : Bool) (w : World) : Calls Try.prog 26 #[.int .i64 n, .bool ok] w fun e w' => e = .returned (.tuple #[.agg #[.int .u8 (told n ok).1.k, .int .i64 (told n ok).1.n, .string (told n ok).1.t], .int .i64 (told n ok).2]) ∧ Below w.heap.size w w' := by
  cases ok
  · go_enter Try.func26, Try.ntmps26
    go_wp2
    go_returns
    exact ⟨rfl, by (repeat' (first | (with_reducible exact Below.refl _ _) | (with_reducible assumption) | (with_reducible refine Below.alloc ?_ ?_ _) | (with_reducible refine Below.drew ?_) | (with_reducible refine below_drewN ?_ _) | (with_reducible refine Below.setCell ?_ ?_ _) | (with_reducible refine Below.trans ?_ (Below.mono (by with_reducible assumption) ?_)) | (simp only [World.size_alloc, World.size_setCell, World.heap_drewN, World.size_drew]; omega) | omega | (simp; omega) | (simp; done)))⟩
  · go_enter Try.func26, Try.ntmps26
    go_wp2_with (go_at_call 30; refine (rnumC _ _).mono ?_; rintro e w1 ⟨rfl, hb1⟩; obtain ⟨chb1, fhb1⟩ := bcell hb1; have zhb1 := hb1.size; (try simp only [World.size_alloc, World.size_setCell, World.heap_drewN, World.size_drew] at zhb1); have zzhb10 : w.heap.size < w1.heap.size := (by omega))
    refine bodyPost_ret (v := .tuple #[.agg #[.int .u8 1, .int .i64 n, .string ⟨#[]⟩], .int .i64 0]) (by simp [results, Try.results26, go_sem, *]) rfl ?_
    exact ⟨rfl, by (repeat' (first | (with_reducible exact Below.refl _ _) | (with_reducible assumption) | (with_reducible refine Below.alloc ?_ ?_ _) | (with_reducible refine Below.drew ?_) | (with_reducible refine below_drewN ?_ _) | (with_reducible refine Below.setCell ?_ ?_ _) | (with_reducible refine Below.trans ?_ (Below.mono (by with_reducible assumption) ?_)) | (simp only [World.size_alloc, World.size_setCell, World.heap_drewN, World.size_drew]; omega) | omega | (simp; omega) | (simp; done)))⟩
theorem raddC (a b : Int) (ha : R a) (hb : R b) (w : World) : Calls Try.prog 29 #[.int .i64 a, .int .i64 b] w fun e w' => e = .returned (.tuple #[.int .i64 (radd a b).1, .bool (radd a b).2]) ∧ Below w.heap.size w w' := by
  have HA := Lib.hid ha
  have HB := Lib.hid hb
  clear ha hb
  by_cases h1 : 0 < b
  · have h2 : ¬ b < 0 := by omega
    by_cases h3 : wrap64 (9223372036854775807 - b) < a
    · go_enter Try.func29, Try.ntmps29
      go_wp2
      go_returns
      exact ⟨by have ha := HA.out; have hb := HB.out; unfold R wrap64 at *; rw [show radd a b = (0, false) from if_neg (by unfold R; omega)]; rfl, by (repeat' (first | (with_reducible exact Below.refl _ _) | (with_reducible assumption) | (with_reducible refine Below.alloc ?_ ?_ _) | (with_reducible refine Below.drew ?_) | (with_reducible refine below_drewN ?_ _) | (with_reducible refine Below.setCell ?_ ?_ _) | (with_reducible refine Below.trans ?_ (Below.mono (by with_reducible assumption) ?_)) | (simp only [World.size_alloc, World.size_setCell, World.heap_drewN, World.size_drew]; omega) | omega | (simp; omega) | (simp; done)))⟩
    · go_enter Try.func29, Try.ntmps29
      go_wp2
      go_returns
      exact ⟨by have ha := HA.out; have hb := HB.out; unfold R wrap64 at *; rw [show radd a b = (a + b, true) from if_pos (by unfold R; omega)]; simp; omega, by (repeat' (first | (with_reducible exact Below.refl _ _) | (with_reducible assumption) | (with_reducible refine Below.alloc ?_ ?_ _) | (with_reducible refine Below.drew ?_) | (with_reducible refine below_drewN ?_ _) | (with_reducible refine Below.setCell ?_ ?_ _) | (with_reducible refine Below.trans ?_ (Below.mono (by with_reducible assumption) ?_)) | (simp only [World.size_alloc, World.size_setCell, World.heap_drewN, World.size_drew]; omega) | omega | (simp; omega) | (simp; done)))⟩
  · by_cases h2 : b < 0
    · by_cases h3 : a < wrap64 (-9223372036854775808 - b)
      · go_enter Try.func29, Try.ntmps29
        go_wp2
        go_returns
        exact ⟨by have ha := HA.out; have hb := HB.out; unfold R wrap64 at *; rw [show radd a b = (0, false) from if_neg (by unfold R; omega)]; rfl, by (repeat' (first | (with_reducible exact Below.refl _ _) | (with_reducible assumption) | (with_reducible refine Below.alloc ?_ ?_ _) | (with_reducible refine Below.drew ?_) | (with_reducible refine below_drewN ?_ _) | (with_reducible refine Below.setCell ?_ ?_ _) | (with_reducible refine Below.trans ?_ (Below.mono (by with_reducible assumption) ?_)) | (simp only [World.size_alloc, World.size_setCell, World.heap_drewN, World.size_drew]; omega) | omega | (simp; omega) | (simp; done)))⟩
      · go_enter Try.func29, Try.ntmps29
        go_wp2
        go_returns
        exact ⟨by have ha := HA.out; have hb := HB.out; unfold R wrap64 at *; rw [show radd a b = (a + b, true) from if_pos (by unfold R; omega)]; simp; omega, by (repeat' (first | (with_reducible exact Below.refl _ _) | (with_reducible assumption) | (with_reducible refine Below.alloc ?_ ?_ _) | (with_reducible refine Below.drew ?_) | (with_reducible refine below_drewN ?_ _) | (with_reducible refine Below.setCell ?_ ?_ _) | (with_reducible refine Below.trans ?_ (Below.mono (by with_reducible assumption) ?_)) | (simp only [World.size_alloc, World.size_setCell, World.heap_drewN, World.size_drew]; omega) | omega | (simp; omega) | (simp; done)))⟩
    · go_enter Try.func29, Try.ntmps29
      go_wp2
      go_returns
      exact ⟨by have ha := HA.out; have hb := HB.out; unfold R wrap64 at *; rw [show radd a b = (a + b, true) from if_pos (by unfold R; omega)]; simp; omega, by (repeat' (first | (with_reducible exact Below.refl _ _) | (with_reducible assumption) | (with_reducible refine Below.alloc ?_ ?_ _) | (with_reducible refine Below.drew ?_) | (with_reducible refine below_drewN ?_ _) | (with_reducible refine Below.setCell ?_ ?_ _) | (with_reducible refine Below.trans ?_ (Below.mono (by with_reducible assumption) ?_)) | (simp only [World.size_alloc, World.size_setCell, World.heap_drewN, World.size_drew]; omega) | omega | (simp; omega) | (simp; done)))⟩
theorem rsubC (a b : Int) (ha : R a) (hb : R b) (w : World) : Calls Try.prog 28 #[.int .i64 a, .int .i64 b] w fun e w' => e = .returned (.tuple #[.int .i64 (rsub a b).1, .bool (rsub a b).2]) ∧ Below w.heap.size w w' := by
  have HA := Lib.hid ha
  have HB := Lib.hid hb
  clear ha hb
  by_cases h1 : 0 < b
  · have h2 : ¬ b < 0 := by omega
    by_cases h3 : a < wrap64 (-9223372036854775808 + b)
    · go_enter Try.func28, Try.ntmps28
      go_wp2
      go_returns
      exact ⟨by have ha := HA.out; have hb := HB.out; unfold R wrap64 at *; rw [show rsub a b = (0, false) from if_neg (by unfold R; omega)]; rfl, by (repeat' (first | (with_reducible exact Below.refl _ _) | (with_reducible assumption) | (with_reducible refine Below.alloc ?_ ?_ _) | (with_reducible refine Below.drew ?_) | (with_reducible refine below_drewN ?_ _) | (with_reducible refine Below.setCell ?_ ?_ _) | (with_reducible refine Below.trans ?_ (Below.mono (by with_reducible assumption) ?_)) | (simp only [World.size_alloc, World.size_setCell, World.heap_drewN, World.size_drew]; omega) | omega | (simp; omega) | (simp; done)))⟩
    · go_enter Try.func28, Try.ntmps28
      go_wp2
      go_returns
      exact ⟨by have ha := HA.out; have hb := HB.out; unfold R wrap64 at *; rw [show rsub a b = (a - b, true) from if_pos (by unfold R; omega)]; simp; omega, by (repeat' (first | (with_reducible exact Below.refl _ _) | (with_reducible assumption) | (with_reducible refine Below.alloc ?_ ?_ _) | (with_reducible refine Below.drew ?_) | (with_reducible refine below_drewN ?_ _) | (with_reducible refine Below.setCell ?_ ?_ _) | (with_reducible refine Below.trans ?_ (Below.mono (by with_reducible assumption) ?_)) | (simp only [World.size_alloc, World.size_setCell, World.heap_drewN, World.size_drew]; omega) | omega | (simp; omega) | (simp; done)))⟩
  · by_cases h2 : b < 0
    · by_cases h3 : wrap64 (9223372036854775807 + b) < a
      · go_enter Try.func28, Try.ntmps28
        go_wp2
        go_returns
        exact ⟨by have ha := HA.out; have hb := HB.out; unfold R wrap64 at *; rw [show rsub a b = (0, false) from if_neg (by unfold R; omega)]; rfl, by (repeat' (first | (with_reducible exact Below.refl _ _) | (with_reducible assumption) | (with_reducible refine Below.alloc ?_ ?_ _) | (with_reducible refine Below.drew ?_) | (with_reducible refine below_drewN ?_ _) | (with_reducible refine Below.setCell ?_ ?_ _) | (with_reducible refine Below.trans ?_ (Below.mono (by with_reducible assumption) ?_)) | (simp only [World.size_alloc, World.size_setCell, World.heap_drewN, World.size_drew]; omega) | omega | (simp; omega) | (simp; done)))⟩
      · go_enter Try.func28, Try.ntmps28
        go_wp2
        go_returns
        exact ⟨by have ha := HA.out; have hb := HB.out; unfold R wrap64 at *; rw [show rsub a b = (a - b, true) from if_pos (by unfold R; omega)]; simp; omega, by (repeat' (first | (with_reducible exact Below.refl _ _) | (with_reducible assumption) | (with_reducible refine Below.alloc ?_ ?_ _) | (with_reducible refine Below.drew ?_) | (with_reducible refine below_drewN ?_ _) | (with_reducible refine Below.setCell ?_ ?_ _) | (with_reducible refine Below.trans ?_ (Below.mono (by with_reducible assumption) ?_)) | (simp only [World.size_alloc, World.size_setCell, World.heap_drewN, World.size_drew]; omega) | omega | (simp; omega) | (simp; done)))⟩
    · go_enter Try.func28, Try.ntmps28
      go_wp2
      go_returns
      exact ⟨by have ha := HA.out; have hb := HB.out; unfold R wrap64 at *; rw [show rsub a b = (a - b, true) from if_pos (by unfold R; omega)]; simp; omega, by (repeat' (first | (with_reducible exact Below.refl _ _) | (with_reducible assumption) | (with_reducible refine Below.alloc ?_ ?_ _) | (with_reducible refine Below.drew ?_) | (with_reducible refine below_drewN ?_ _) | (with_reducible refine Below.setCell ?_ ?_ _) | (with_reducible refine Below.trans ?_ (Below.mono (by with_reducible assumption) ?_)) | (simp only [World.size_alloc, World.size_setCell, World.heap_drewN, World.size_drew]; omega) | omega | (simp; omega) | (simp; done)))⟩
end Go.Proofs.Ytgkdmccceegifaa.Vf
