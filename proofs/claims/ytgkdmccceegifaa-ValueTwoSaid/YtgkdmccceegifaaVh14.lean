/- The reference's operator of two at the operator 14: its call's contract, for values of one Kind. No condition but the numbers' own range. -/
import Derived.Test.YtgkdmccceegifaaVp
namespace Go.Proofs.Ytgkdmccceegifaa.Vf
open Go.RowKit Go.Proofs.Ytgkdmccceegifaa.Vm Go.Proofs.Ytgkdmccceegifaa.Va Go.Proofs.Ytgkdmccceegifaa.Vc Go.Proofs.Ytgkdmccceegifaa.Vt Go.Proofs.Ytgkdmccceegifaa.Vq
set_option linter.unusedVariables false
set_option linter.unusedSimpArgs false
set_option maxHeartbeats 4000000
set_option maxRecDepth 100000
theorem rtwo_14_1 (an bn : Int) (at_ bt : ByteArray) (ha : R an) (hb : R bn) (w : World) : Calls Try.prog 9 #[.int .u8 14, .agg #[.int .u8 1, .int .i64 an, .string at_], .agg #[.int .u8 1, .int .i64 bn, .string bt]] w (TwoPost 14 ⟨1, an, at_⟩ ⟨1, bn, bt⟩ w) := by
  have HT := Lib.hid (show two 14 ⟨1, an, at_⟩ ⟨1, bn, bt⟩ = (V.zero, 23) from by simp [two, fits, ints, texts, truths])
  go_enter Try.func9, Try.ntmps9
  go_wp2
  refine bodyPost_ret (v := .tuple #[.agg #[.int .u8 0, .int .i64 0, .string ⟨#[]⟩], .int .i64 23]) (by simp [results, Try.results9, go_sem, *]) rfl ?_
  exact TwoPost.mk HT.out (by rfl) (by (repeat' (first | (with_reducible exact Below.refl _ _) | (with_reducible assumption) | (with_reducible refine Below.alloc ?_ ?_ _) | (with_reducible refine Below.drew ?_) | (with_reducible refine below_drewN ?_ _) | (with_reducible refine Below.setCell ?_ ?_ _) | (with_reducible refine Below.trans ?_ (Below.mono (by with_reducible assumption) ?_)) | (simp only [World.size_alloc, World.size_setCell, World.heap_drewN, World.size_drew]; omega) | omega | (simp; omega) | (simp; done))))
theorem rtwo_14_2 (an bn : Int) (at_ bt : ByteArray) (ha : R an) (hb : R bn) (w : World) : Calls Try.prog 9 #[.int .u8 14, .agg #[.int .u8 2, .int .i64 an, .string at_], .agg #[.int .u8 2, .int .i64 bn, .string bt]] w (TwoPost 14 ⟨2, an, at_⟩ ⟨2, bn, bt⟩ w) := by
  have HT := Lib.hid (show two 14 ⟨2, an, at_⟩ ⟨2, bn, bt⟩ = (truth (yes ⟨2, an, at_⟩ || yes ⟨2, bn, bt⟩), 0) from by simp [two, fits, ints, texts, truths])
  have ha := 0
  cases ya : yes ⟨2, an, at_⟩
  · have YA := Lib.hid ya
    clear ya
    go_enter Try.func9, Try.ntmps9
    go_wp2_with (first | (go_at_call_of 25 (Value.string at_); refine (ryesR ⟨2, an, at_⟩ _ YA.out _).mono ?_; rintro e w1 ⟨rfl, hb1⟩; obtain ⟨chb1, fhb1⟩ := bcell hb1; have zhb1 := hb1.size; (try simp only [World.size_alloc, World.size_setCell, World.heap_drewN, World.size_drew] at zhb1); have zzhb10 : w.heap.size < w1.heap.size := (by omega); have zzhb11 : w.heap.size + 1 < w1.heap.size := (by omega); have zzhb12 : w.heap.size + 2 < w1.heap.size := (by omega); have zzhb13 : w.heap.size + 1 + 1 < w1.heap.size := (by omega)) | (go_at_call_of 25 (Value.string bt); refine (ryesC ⟨2, bn, bt⟩ _).mono ?_; rintro e w2 ⟨rfl, hb2⟩; obtain ⟨chb2, fhb2⟩ := bcell hb2; have zhb2 := hb2.size; (try simp only [World.size_alloc, World.size_setCell, World.heap_drewN, World.size_drew] at zhb2); have zzhb20 : w.heap.size < w2.heap.size := (by omega); have zzhb21 : w.heap.size + 1 < w2.heap.size := (by omega); have zzhb22 : w.heap.size + 2 < w2.heap.size := (by omega); have zzhb23 : w.heap.size + 1 + 1 < w2.heap.size := (by omega)) | (go_at_call 22; refine (rtruthC _ _).mono ?_; rintro e w9 ⟨rfl, hb9⟩; obtain ⟨chb9, fhb9⟩ := bcell hb9; have zhb9 := hb9.size; (try simp only [World.size_alloc, World.size_setCell, World.heap_drewN, World.size_drew] at zhb9); have zzhb90 : w.heap.size < w9.heap.size := (by omega); have zzhb91 : w.heap.size + 1 < w9.heap.size := (by omega); have zzhb92 : w.heap.size + 2 < w9.heap.size := (by omega); have zzhb93 : w.heap.size + 1 + 1 < w9.heap.size := (by omega)))
    refine bodyPost_ret (v := .tuple #[.agg #[.int .u8 2, .int .i64 (b2i (yes ⟨2, bn, bt⟩)), .string ⟨#[]⟩], .int .i64 0]) (by simp [results, Try.results9, go_sem, *]) rfl ?_
    exact TwoPost.mk HT.out (by rw [YA.out]; rfl) (by (repeat' (first | (with_reducible exact Below.refl _ _) | (with_reducible assumption) | (with_reducible refine Below.alloc ?_ ?_ _) | (with_reducible refine Below.drew ?_) | (with_reducible refine below_drewN ?_ _) | (with_reducible refine Below.setCell ?_ ?_ _) | (with_reducible refine Below.trans ?_ (Below.mono (by with_reducible assumption) ?_)) | (simp only [World.size_alloc, World.size_setCell, World.heap_drewN, World.size_drew]; omega) | omega | (simp; omega) | (simp; done))))
  · have YA := Lib.hid ya
    clear ya
    go_enter Try.func9, Try.ntmps9
    go_wp2_with (first | (go_at_call_of 25 (Value.string at_); refine (ryesR ⟨2, an, at_⟩ _ YA.out _).mono ?_; rintro e w1 ⟨rfl, hb1⟩; obtain ⟨chb1, fhb1⟩ := bcell hb1; have zhb1 := hb1.size; (try simp only [World.size_alloc, World.size_setCell, World.heap_drewN, World.size_drew] at zhb1); have zzhb10 : w.heap.size < w1.heap.size := (by omega); have zzhb11 : w.heap.size + 1 < w1.heap.size := (by omega); have zzhb12 : w.heap.size + 2 < w1.heap.size := (by omega); have zzhb13 : w.heap.size + 1 + 1 < w1.heap.size := (by omega)) | (go_at_call 22; refine (rtruthC _ _).mono ?_; rintro e w9 ⟨rfl, hb9⟩; obtain ⟨chb9, fhb9⟩ := bcell hb9; have zhb9 := hb9.size; (try simp only [World.size_alloc, World.size_setCell, World.heap_drewN, World.size_drew] at zhb9); have zzhb90 : w.heap.size < w9.heap.size := (by omega); have zzhb91 : w.heap.size + 1 < w9.heap.size := (by omega); have zzhb92 : w.heap.size + 2 < w9.heap.size := (by omega); have zzhb93 : w.heap.size + 1 + 1 < w9.heap.size := (by omega)))
    refine bodyPost_ret (v := .tuple #[.agg #[.int .u8 2, .int .i64 (b2i (true)), .string ⟨#[]⟩], .int .i64 0]) (by simp [results, Try.results9, go_sem, *]) rfl ?_
    exact TwoPost.mk HT.out (by rw [YA.out]; rfl) (by (repeat' (first | (with_reducible exact Below.refl _ _) | (with_reducible assumption) | (with_reducible refine Below.alloc ?_ ?_ _) | (with_reducible refine Below.drew ?_) | (with_reducible refine below_drewN ?_ _) | (with_reducible refine Below.setCell ?_ ?_ _) | (with_reducible refine Below.trans ?_ (Below.mono (by with_reducible assumption) ?_)) | (simp only [World.size_alloc, World.size_setCell, World.heap_drewN, World.size_drew]; omega) | omega | (simp; omega) | (simp; done))))
theorem rtwo_14_3 (an bn : Int) (at_ bt : ByteArray) (ha : R an) (hb : R bn) (w : World) : Calls Try.prog 9 #[.int .u8 14, .agg #[.int .u8 3, .int .i64 an, .string at_], .agg #[.int .u8 3, .int .i64 bn, .string bt]] w (TwoPost 14 ⟨3, an, at_⟩ ⟨3, bn, bt⟩ w) := by
  have HT := Lib.hid (show two 14 ⟨3, an, at_⟩ ⟨3, bn, bt⟩ = (V.zero, 23) from by simp [two, fits, ints, texts, truths])
  go_enter Try.func9, Try.ntmps9
  go_wp2
  refine bodyPost_ret (v := .tuple #[.agg #[.int .u8 0, .int .i64 0, .string ⟨#[]⟩], .int .i64 23]) (by simp [results, Try.results9, go_sem, *]) rfl ?_
  exact TwoPost.mk HT.out (by rfl) (by (repeat' (first | (with_reducible exact Below.refl _ _) | (with_reducible assumption) | (with_reducible refine Below.alloc ?_ ?_ _) | (with_reducible refine Below.drew ?_) | (with_reducible refine below_drewN ?_ _) | (with_reducible refine Below.setCell ?_ ?_ _) | (with_reducible refine Below.trans ?_ (Below.mono (by with_reducible assumption) ?_)) | (simp only [World.size_alloc, World.size_setCell, World.heap_drewN, World.size_drew]; omega) | omega | (simp; omega) | (simp; done))))
end Go.Proofs.Ytgkdmccceegifaa.Vf
