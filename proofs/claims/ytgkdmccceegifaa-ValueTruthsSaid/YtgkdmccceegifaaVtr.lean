/- ValueTruths: the two closures of the law as contracts, at written-out truths. No condition. -/
import Derived.Test.YtgkdmccceegifaaVy
namespace Go.Proofs.Ytgkdmccceegifaa.Vtr
open Go.RowKit Go.Proofs.Ytgkdmccceegifaa.Vm Go.Proofs.Ytgkdmccceegifaa.Va Go.Proofs.Ytgkdmccceegifaa.Vc Go.Proofs.Ytgkdmccceegifaa.Vt Go.Proofs.Ytgkdmccceegifaa.Vz Go.Proofs.Ytgkdmccceegifaa.Vo
set_option linter.unusedVariables false
set_option linter.unusedSimpArgs false

theorem notN (x y : Int) (ho : one 4 ⟨2, x, ⟨#[]⟩⟩ = (⟨2, y, ⟨#[]⟩⟩, 0)) (w : World) : Calls Try.prog 14 #[.agg #[.int .u8 2, .int .i64 x, .string ⟨#[]⟩]] w fun e w' =>
    e = .returned (.agg #[.int .u8 2, .int .i64 y, .string ⟨#[]⟩]) ∧ Below w.heap.size w w' := by
  have HO := Lib.hid ho
  clear ho
  go_enter Try.func14, Try.ntmps14
  go_wp2_with (go_at_call 15; refine (oneR 4 ⟨2, x, ⟨#[]⟩⟩ _ HO.out _).mono ?_; rintro e w1 ⟨rfl, hb1⟩; obtain ⟨chb1, fhb1⟩ := bcell hb1; have zhb1 := hb1.size; (try simp only [World.size_alloc, World.size_setCell, World.heap_drewN, World.size_drew] at zhb1); have zzhb10 : w.heap.size < w1.heap.size := (by omega); have zzhb11 : w.heap.size + 1 < w1.heap.size := (by omega))
  refine bodyPost_ret (v := .agg #[.int .u8 2, .int .i64 y, .string ⟨#[]⟩]) (by simp [results, Try.results14, go_sem, *]) rfl ?_
  exact ⟨rfl, by (repeat' (first | (with_reducible exact Below.refl _ _) | (with_reducible assumption) | (with_reducible refine Below.alloc ?_ ?_ _) | (with_reducible refine Below.drew ?_) | (with_reducible refine below_drewN ?_ _) | (with_reducible refine Below.setCell ?_ ?_ _) | (with_reducible refine Below.trans ?_ (Below.mono (by with_reducible assumption) ?_)) | (simp only [World.size_alloc, World.size_setCell, World.heap_drewN, World.size_drew]; omega) | omega | (simp; omega) | (simp; done)))⟩
theorem logN (op x y z : Int) (h : two op ⟨2, x, ⟨#[]⟩⟩ ⟨2, y, ⟨#[]⟩⟩ = (⟨2, z, ⟨#[]⟩⟩, 0)) (w : World) : Calls Try.prog 16 #[.int .u8 op, .agg #[.int .u8 2, .int .i64 x, .string ⟨#[]⟩], .agg #[.int .u8 2, .int .i64 y, .string ⟨#[]⟩]] w fun e w' =>
    e = .returned (.agg #[.int .u8 2, .int .i64 z, .string ⟨#[]⟩]) ∧ Below w.heap.size w w' := by
  have HO := Lib.hid h
  clear h
  go_enter Try.func16, Try.ntmps16
  go_wp2_with (go_at_call 8; refine (twoR op ⟨2, x, ⟨#[]⟩⟩ ⟨2, y, ⟨#[]⟩⟩ _ HO.out _).mono ?_; rintro e w1 ⟨rfl, hb1⟩; obtain ⟨chb1, fhb1⟩ := bcell hb1; have zhb1 := hb1.size; (try simp only [World.size_alloc, World.size_setCell, World.heap_drewN, World.size_drew] at zhb1); have zzhb10 : w.heap.size < w1.heap.size := (by omega); have zzhb11 : w.heap.size + 1 < w1.heap.size := (by omega); have zzhb12 : w.heap.size + 1 + 1 < w1.heap.size := (by omega))
  refine bodyPost_ret (v := .agg #[.int .u8 2, .int .i64 z, .string ⟨#[]⟩]) (by simp [results, Try.results16, go_sem, *]) rfl ?_
  exact ⟨rfl, by (repeat' (first | (with_reducible exact Below.refl _ _) | (with_reducible assumption) | (with_reducible refine Below.alloc ?_ ?_ _) | (with_reducible refine Below.drew ?_) | (with_reducible refine below_drewN ?_ _) | (with_reducible refine Below.setCell ?_ ?_ _) | (with_reducible refine Below.trans ?_ (Below.mono (by with_reducible assumption) ?_)) | (simp only [World.size_alloc, World.size_setCell, World.heap_drewN, World.size_drew]; omega) | omega | (simp; omega) | (simp; done)))⟩
theorem not0 (w : World) : Calls Try.prog 14 #[.agg #[.int .u8 2, .int .i64 0, .string ⟨#[]⟩]] w fun e w' => e = .returned (.agg #[.int .u8 2, .int .i64 1, .string ⟨#[]⟩]) ∧ Below w.heap.size w w' := notN 0 1 (by decide +kernel) w
theorem not1 (w : World) : Calls Try.prog 14 #[.agg #[.int .u8 2, .int .i64 1, .string ⟨#[]⟩]] w fun e w' => e = .returned (.agg #[.int .u8 2, .int .i64 0, .string ⟨#[]⟩]) ∧ Below w.heap.size w w' := notN 1 0 (by decide +kernel) w
theorem and00 (w : World) : Calls Try.prog 16 #[.int .u8 13, .agg #[.int .u8 2, .int .i64 0, .string ⟨#[]⟩], .agg #[.int .u8 2, .int .i64 0, .string ⟨#[]⟩]] w fun e w' => e = .returned (.agg #[.int .u8 2, .int .i64 0, .string ⟨#[]⟩]) ∧ Below w.heap.size w w' := logN 13 0 0 0 (by decide +kernel) w
theorem and01 (w : World) : Calls Try.prog 16 #[.int .u8 13, .agg #[.int .u8 2, .int .i64 0, .string ⟨#[]⟩], .agg #[.int .u8 2, .int .i64 1, .string ⟨#[]⟩]] w fun e w' => e = .returned (.agg #[.int .u8 2, .int .i64 0, .string ⟨#[]⟩]) ∧ Below w.heap.size w w' := logN 13 0 1 0 (by decide +kernel) w
theorem and10 (w : World) : Calls Try.prog 16 #[.int .u8 13, .agg #[.int .u8 2, .int .i64 1, .string ⟨#[]⟩], .agg #[.int .u8 2, .int .i64 0, .string ⟨#[]⟩]] w fun e w' => e = .returned (.agg #[.int .u8 2, .int .i64 0, .string ⟨#[]⟩]) ∧ Below w.heap.size w w' := logN 13 1 0 0 (by decide +kernel) w
theorem and11 (w : World) : Calls Try.prog 16 #[.int .u8 13, .agg #[.int .u8 2, .int .i64 1, .string ⟨#[]⟩], .agg #[.int .u8 2, .int .i64 1, .string ⟨#[]⟩]] w fun e w' => e = .returned (.agg #[.int .u8 2, .int .i64 1, .string ⟨#[]⟩]) ∧ Below w.heap.size w w' := logN 13 1 1 1 (by decide +kernel) w
theorem or00 (w : World) : Calls Try.prog 16 #[.int .u8 14, .agg #[.int .u8 2, .int .i64 0, .string ⟨#[]⟩], .agg #[.int .u8 2, .int .i64 0, .string ⟨#[]⟩]] w fun e w' => e = .returned (.agg #[.int .u8 2, .int .i64 0, .string ⟨#[]⟩]) ∧ Below w.heap.size w w' := logN 14 0 0 0 (by decide +kernel) w
theorem or01 (w : World) : Calls Try.prog 16 #[.int .u8 14, .agg #[.int .u8 2, .int .i64 0, .string ⟨#[]⟩], .agg #[.int .u8 2, .int .i64 1, .string ⟨#[]⟩]] w fun e w' => e = .returned (.agg #[.int .u8 2, .int .i64 1, .string ⟨#[]⟩]) ∧ Below w.heap.size w w' := logN 14 0 1 1 (by decide +kernel) w
theorem or10 (w : World) : Calls Try.prog 16 #[.int .u8 14, .agg #[.int .u8 2, .int .i64 1, .string ⟨#[]⟩], .agg #[.int .u8 2, .int .i64 0, .string ⟨#[]⟩]] w fun e w' => e = .returned (.agg #[.int .u8 2, .int .i64 1, .string ⟨#[]⟩]) ∧ Below w.heap.size w w' := logN 14 1 0 1 (by decide +kernel) w
theorem or11 (w : World) : Calls Try.prog 16 #[.int .u8 14, .agg #[.int .u8 2, .int .i64 1, .string ⟨#[]⟩], .agg #[.int .u8 2, .int .i64 1, .string ⟨#[]⟩]] w fun e w' => e = .returned (.agg #[.int .u8 2, .int .i64 1, .string ⟨#[]⟩]) ∧ Below w.heap.size w w' := logN 14 1 1 1 (by decide +kernel) w
theorem eq00 (w : World) : Calls Try.prog 16 #[.int .u8 11, .agg #[.int .u8 2, .int .i64 0, .string ⟨#[]⟩], .agg #[.int .u8 2, .int .i64 0, .string ⟨#[]⟩]] w fun e w' => e = .returned (.agg #[.int .u8 2, .int .i64 1, .string ⟨#[]⟩]) ∧ Below w.heap.size w w' := logN 11 0 0 1 (by decide +kernel) w
theorem eq01 (w : World) : Calls Try.prog 16 #[.int .u8 11, .agg #[.int .u8 2, .int .i64 0, .string ⟨#[]⟩], .agg #[.int .u8 2, .int .i64 1, .string ⟨#[]⟩]] w fun e w' => e = .returned (.agg #[.int .u8 2, .int .i64 0, .string ⟨#[]⟩]) ∧ Below w.heap.size w w' := logN 11 0 1 0 (by decide +kernel) w
theorem eq10 (w : World) : Calls Try.prog 16 #[.int .u8 11, .agg #[.int .u8 2, .int .i64 1, .string ⟨#[]⟩], .agg #[.int .u8 2, .int .i64 0, .string ⟨#[]⟩]] w fun e w' => e = .returned (.agg #[.int .u8 2, .int .i64 0, .string ⟨#[]⟩]) ∧ Below w.heap.size w w' := logN 11 1 0 0 (by decide +kernel) w
theorem eq11 (w : World) : Calls Try.prog 16 #[.int .u8 11, .agg #[.int .u8 2, .int .i64 1, .string ⟨#[]⟩], .agg #[.int .u8 2, .int .i64 1, .string ⟨#[]⟩]] w fun e w' => e = .returned (.agg #[.int .u8 2, .int .i64 1, .string ⟨#[]⟩]) ∧ Below w.heap.size w w' := logN 11 1 1 1 (by decide +kernel) w
end Go.Proofs.Ytgkdmccceegifaa.Vtr
