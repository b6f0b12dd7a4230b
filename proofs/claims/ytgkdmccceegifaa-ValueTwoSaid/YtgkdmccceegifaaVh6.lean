/- The reference's operator of two at the operator 6: its call's contract, for values of one Kind. No condition but the numbers' own range. -/
import Derived.Test.YtgkdmccceegifaaVp
namespace Go.Proofs.Ytgkdmccceegifaa.Vf
open Go.RowKit Go.Proofs.Ytgkdmccceegifaa.Vm Go.Proofs.Ytgkdmccceegifaa.Va Go.Proofs.Ytgkdmccceegifaa.Vc Go.Proofs.Ytgkdmccceegifaa.Vt Go.Proofs.Ytgkdmccceegifaa.Vq
set_option linter.unusedVariables false
set_option linter.unusedSimpArgs false
set_option maxHeartbeats 4000000
set_option maxRecDepth 100000
theorem rtwo_6_1 (an bn : Int) (at_ bt : ByteArray) (ha : R an) (hb : R bn) (w : World) : Calls Try.prog 9 #[.int .u8 6, .agg #[.int .u8 1, .int .i64 an, .string at_], .agg #[.int .u8 1, .int .i64 bn, .string bt]] w (TwoPost 6 ⟨1, an, at_⟩ ⟨1, bn, bt⟩ w) := by
  clear ha hb
  by_cases z : bn = 0
  · subst z
    have HT := Lib.hid (show two 6 ⟨1, an, at_⟩ ⟨1, 0, bt⟩ = (V.zero, 21) from by simp [two, fits, ints, texts, truths, numbers])
    go_enter Try.func9, Try.ntmps9
    go_wp2
    refine bodyPost_ret (v := .tuple #[.agg #[.int .u8 0, .int .i64 0, .string ⟨#[]⟩], .int .i64 21]) (by simp [results, Try.results9, go_sem, *]) rfl ?_
    exact TwoPost.mk HT.out (by rfl) (by (repeat' (first | (with_reducible exact Below.refl _ _) | (with_reducible assumption) | (with_reducible refine Below.alloc ?_ ?_ _) | (with_reducible refine Below.drew ?_) | (with_reducible refine below_drewN ?_ _) | (with_reducible refine Below.setCell ?_ ?_ _) | (with_reducible refine Below.trans ?_ (Below.mono (by with_reducible assumption) ?_)) | (simp only [World.size_alloc, World.size_setCell, World.heap_drewN, World.size_drew]; omega) | omega | (simp; omega) | (simp; done))))
  by_cases m : an = -9223372036854775808 ∧ bn = -1
  · obtain ⟨rfl, rfl⟩ := m
    clear z
    have HT := Lib.hid (show two 6 ⟨1, -9223372036854775808, at_⟩ ⟨1, -1, bt⟩ = (V.zero, 20) from by simp [two, fits, ints, texts, truths, numbers, opn, whole, lo])
    go_enter Try.func9, Try.ntmps9
    go_wp2
    refine bodyPost_ret (v := .tuple #[.agg #[.int .u8 0, .int .i64 0, .string ⟨#[]⟩], .int .i64 20]) (by simp [results, Try.results9, go_sem, *]) rfl ?_
    exact TwoPost.mk HT.out (by rfl) (by (repeat' (first | (with_reducible exact Below.refl _ _) | (with_reducible assumption) | (with_reducible refine Below.alloc ?_ ?_ _) | (with_reducible refine Below.drew ?_) | (with_reducible refine below_drewN ?_ _) | (with_reducible refine Below.setCell ?_ ?_ _) | (with_reducible refine Below.trans ?_ (Below.mono (by with_reducible assumption) ?_)) | (simp only [World.size_alloc, World.size_setCell, World.heap_drewN, World.size_drew]; omega) | omega | (simp; omega) | (simp; done))))
  have hw : whole an bn = true := by simp only [whole, lo, Bool.or_eq_true, bne_iff_ne]; omega
  have zb : (bn == 0) = false := by simp [z]
  have HT := Lib.hid (show two 6 ⟨1, an, at_⟩ ⟨1, bn, bt⟩ = (num (wrap64 (an.tdiv bn)), 0) from by simp [two, fits, ints, texts, truths, numbers, opn, hw, z])
  cases m1 : (an == -9223372036854775808)
  · have ZZ := Lib.hid z
    clear hw m z
    go_enter Try.func9, Try.ntmps9
    go_wp2_with (first | (go_at_call 30; refine (rnumC _ _).mono ?_; rintro e w1 ⟨rfl, hb1⟩; obtain ⟨chb1, fhb1⟩ := bcell hb1; have zhb1 := hb1.size; (try simp only [World.size_alloc, World.size_setCell, World.heap_drewN, World.size_drew] at zhb1); have zzhb10 : w.heap.size < w1.heap.size := (by omega); have zzhb11 : w.heap.size + 1 < w1.heap.size := (by omega); have zzhb12 : w.heap.size + 2 < w1.heap.size := (by omega); have zzhb13 : w.heap.size + 1 + 1 < w1.heap.size := (by omega)))
    refine bodyPost_ret (v := .tuple #[.agg #[.int .u8 1, .int .i64 (wrap64 (an.tdiv bn)), .string ⟨#[]⟩], .int .i64 0]) (by simp [results, Try.results9, go_sem, *]) rfl ?_
    exact TwoPost.mk HT.out (by rfl) (by (repeat' (first | (with_reducible exact Below.refl _ _) | (with_reducible assumption) | (with_reducible refine Below.alloc ?_ ?_ _) | (with_reducible refine Below.drew ?_) | (with_reducible refine below_drewN ?_ _) | (with_reducible refine Below.setCell ?_ ?_ _) | (with_reducible refine Below.trans ?_ (Below.mono (by with_reducible assumption) ?_)) | (simp only [World.size_alloc, World.size_setCell, World.heap_drewN, World.size_drew]; omega) | omega | (simp; omega) | (simp; done))))
  · obtain rfl : an = -9223372036854775808 := by simpa using m1
    have m2 : (bn == -1) = false := by
      simp only [beq_eq_false_iff_ne]
      omega
    clear HT
    have HT := Lib.hid (show two 6 ⟨1, -9223372036854775808, at_⟩ ⟨1, bn, bt⟩ = (num (wrap64 (-Int.tdiv 9223372036854775808 bn)), 0) from by simp [two, fits, ints, texts, truths, numbers, opn, hw, z])
    clear hw m m1
    go_enter Try.func9, Try.ntmps9
    go_wp2_with (first | (go_at_call 30; refine (rnumC _ _).mono ?_; rintro e w1 ⟨rfl, hb1⟩; obtain ⟨chb1, fhb1⟩ := bcell hb1; have zhb1 := hb1.size; (try simp only [World.size_alloc, World.size_setCell, World.heap_drewN, World.size_drew] at zhb1); have zzhb10 : w.heap.size < w1.heap.size := (by omega); have zzhb11 : w.heap.size + 1 < w1.heap.size := (by omega); have zzhb12 : w.heap.size + 2 < w1.heap.size := (by omega); have zzhb13 : w.heap.size + 1 + 1 < w1.heap.size := (by omega)))
    refine bodyPost_ret (v := .tuple #[.agg #[.int .u8 1, .int .i64 (wrap64 (-Int.tdiv 9223372036854775808 bn)), .string ⟨#[]⟩], .int .i64 0]) (by simp [results, Try.results9, go_sem, *]) rfl ?_
    exact TwoPost.mk HT.out (by rfl) (by (repeat' (first | (with_reducible exact Below.refl _ _) | (with_reducible assumption) | (with_reducible refine Below.alloc ?_ ?_ _) | (with_reducible refine Below.drew ?_) | (with_reducible refine below_drewN ?_ _) | (with_reducible refine Below.setCell ?_ ?_ _) | (with_reducible refine Below.trans ?_ (Below.mono (by with_reducible assumption) ?_)) | (simp only [World.size_alloc, World.size_setCell, World.heap_drewN, World.size_drew]; omega) | omega | (simp; omega) | (simp; done))))
theorem rtwo_6_2 (an bn : Int) (at_ bt : ByteArray) (ha : R an) (hb : R bn) (w : World) : Calls Try.prog 9 #[.int .u8 6, .agg #[.int .u8 2, .int .i64 an, .string at_], .agg #[.int .u8 2, .int .i64 bn, .string bt]] w (TwoPost 6 ⟨2, an, at_⟩ ⟨2, bn, bt⟩ w) := by
  have HT := Lib.hid (show two 6 ⟨2, an, at_⟩ ⟨2, bn, bt⟩ = (V.zero, 23) from by simp [two, fits, ints, texts, truths])
  go_enter Try.func9, Try.ntmps9
  go_wp2
  refine bodyPost_ret (v := .tuple #[.agg #[.int .u8 0, .int .i64 0, .string ⟨#[]⟩], .int .i64 23]) (by simp [results, Try.results9, go_sem, *]) rfl ?_
  exact TwoPost.mk HT.out (by rfl) (by (repeat' (first | (with_reducible exact Below.refl _ _) | (with_reducible assumption) | (with_reducible refine Below.alloc ?_ ?_ _) | (with_reducible refine Below.drew ?_) | (with_reducible refine below_drewN ?_ _) | (with_reducible refine Below.setCell ?_ ?_ _) | (with_reducible refine Below.trans ?_ (Below.mono (by with_reducible assumption) ?_)) | (simp only [World.size_alloc, World.size_setCell, World.heap_drewN, World.size_drew]; omega) | omega | (simp; omega) | (simp; done))))
theorem rtwo_6_3 (an bn : Int) (at_ bt : ByteArray) (ha : R an) (hb : R bn) (w : World) : Calls Try.prog 9 #[.int .u8 6, .agg #[.int .u8 3, .int .i64 an, .string at_], .agg #[.int .u8 3, .int .i64 bn, .string bt]] w (TwoPost 6 ⟨3, an, at_⟩ ⟨3, bn, bt⟩ w) := by
  have HT := Lib.hid (show two 6 ⟨3, an, at_⟩ ⟨3, bn, bt⟩ = (V.zero, 23) from by simp [two, fits, ints, texts, truths])
  go_enter Try.func9, Try.ntmps9
  go_wp2
  refine bodyPost_ret (v := .tuple #[.agg #[.int .u8 0, .int .i64 0, .string ⟨#[]⟩], .int .i64 23]) (by simp [results, Try.results9, go_sem, *]) rfl ?_
  exact TwoPost.mk HT.out (by rfl) (by (repeat' (first | (with_reducible exact Below.refl _ _) | (with_reducible assumption) | (with_reducible refine Below.alloc ?_ ?_ _) | (with_reducible refine Below.drew ?_) | (with_reducible refine below_drewN ?_ _) | (with_reducible refine Below.setCell ?_ ?_ _) | (with_reducible refine Below.trans ?_ (Below.mono (by with_reducible assumption) ?_)) | (simp only [World.size_alloc, World.size_setCell, World.heap_drewN, World.size_drew]; omega) | omega | (simp; omega) | (simp; done))))
end Go.Proofs.Ytgkdmccceegifaa.Vf
