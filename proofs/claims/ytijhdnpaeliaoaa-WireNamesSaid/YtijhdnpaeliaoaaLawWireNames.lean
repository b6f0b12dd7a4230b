/- WireNames: the walk of the law, from the contracts of the writers and the readers. No condition. -/
import Derived.Test.YtijhdnpaeliaoaaWx
namespace Go.Proofs.Ytijhdnpaeliaoaa.LawWireNames
open Go.RowKit Go.Sort Go.Proofs.Ytijhdnpaeliaoaa.Wm Go.Proofs.Ytijhdnpaeliaoaa.Wb Go.Proofs.Ytijhdnpaeliaoaa.Wa Go.Proofs.Ytijhdnpaeliaoaa.Wc Go.Proofs.Ytijhdnpaeliaoaa.Wd Go.Proofs.Ytijhdnpaeliaoaa.We Go.Proofs.Ytijhdnpaeliaoaa.Wf Go.Proofs.Ytijhdnpaeliaoaa.Wg Go.Proofs.Ytijhdnpaeliaoaa.Wh Go.Proofs.Ytijhdnpaeliaoaa.Wi Go.Proofs.Ytijhdnpaeliaoaa.Wj Go.Proofs.Ytijhdnpaeliaoaa.Wp Go.Proofs.Ytijhdnpaeliaoaa.Wr Go.Proofs.Ytijhdnpaeliaoaa.Wx
set_option linter.unusedVariables false
set_option linter.unusedSimpArgs false
set_option maxRecDepth 100000
set_option maxHeartbeats 8000000 in
theorem walkR (W : World) : Calls Try.prog 8 #[] W fun e W' => e = .returned (.bool true) ∧ Below W.heap.size W W' := by
  go_enter Try.func8, Try.ntmps8
  go_wp2_with fail
  refine (numNil _).mono ?_
  rintro e w1 ⟨rfl, hx⟩
  have hB : Below W.heap.size W w1 := hx
  clear hx; (try clear zB)
  have zB := hB.size
  go_wp2_with fail
  refine (intNil _).mono ?_
  rintro e w3 ⟨rfl, hx⟩
  replace hB := hB.trans (hx.mono zB)
  clear hx; (try clear zB)
  have zB := hB.size
  go_wp2_with fail
  refine (textNil 9 _).mono ?_
  rintro e w5 ⟨rfl, hx⟩
  replace hB := hB.trans (hx.mono zB)
  clear hx; (try clear zB)
  have zB := hB.size
  go_wp2_with fail
  refine (valNil _).mono ?_
  rintro e w7 ⟨rfl, hx⟩
  replace hB := hB.trans (hx.mono zB)
  clear hx; (try clear zB)
  have zB := hB.size
  have hx := (Below.refl w7.heap.size w7).alloc (Nat.le_refl _) (.cells #[.int .u8 0, .int .i64 0, .string ⟨#[]⟩] 23)
  replace hB := hB.trans (hx.mono zB)
  clear hx; (try clear zB)
  have zB := hB.size
  go_wp2_with fail
  refine (leftNil' _).mono ?_
  rintro e w10 ⟨rfl, hx⟩
  replace hB := hB.trans (hx.mono zB)
  clear hx; (try clear zB)
  have zB := hB.size
  go_wp2_with fail
  refine (endNil _).mono ?_
  rintro e w12 ⟨rfl, hx⟩
  replace hB := hB.trans (hx.mono zB)
  clear hx; (try clear zB)
  have zB := hB.size
  go_wp2_with fail
  refine (numM _).mono ?_
  rintro e w14 ⟨rfl, hx⟩
  replace hB := hB.trans (hx.mono zB)
  clear hx; (try clear zB)
  have zB := hB.size
  go_wp2_with fail
  refine (numP _).mono ?_
  rintro e w16 ⟨rfl, hx⟩
  replace hB := hB.trans (hx.mono zB)
  clear hx; (try clear zB)
  have zB := hB.size
  go_wp2_with fail
  have hrow : (w16.alloc (.cells #[.int .i64 (-9223372036854775808), .int .i64 9223372036854775807, .int .i64 (-1), .int .i64 0] 2)).heap[w16.heap.size]? = some (.cells #[.int .i64 (-9223372036854775808), .int .i64 9223372036854775807, .int .i64 (-1), .int .i64 0] 2) := heap_alloc_new w16 _
  have hx : Below w16.heap.size w16 (w16.alloc (.cells #[.int .i64 (-9223372036854775808), .int .i64 9223372036854775807, .int .i64 (-1), .int .i64 0] 2)) := (Below.refl _ _).alloc (Nat.le_refl _) _
  replace hB := hB.trans (hx.mono zB)
  clear hx; (try clear zB)
  have zB := hB.size
  generalize hW19 : (w16.alloc (.cells #[.int .i64 (-9223372036854775808), .int .i64 9223372036854775807, .int .i64 (-1), .int .i64 0] 2)) = W19 at *
  clear hW19
  generalize hg19 : w16.heap.size = g19 at *
  clear hg19
  refine wp_loop_rounds 5 ?_
  rw [rounds_succ]
  have q : W19.cell? ⟨g19, 0, none⟩ = some (.int .i64 (-9223372036854775808)) := cell_mark hrow 0
  have hl := row_lt hrow
  go_wp2_with fail
  refine (intC ⟨#[]⟩ (-9223372036854775808) (by decide) (by decide) (by decide) _).mono ?_
  rintro e b20 ⟨rfl, hx⟩
  replace hrow := row_on hrow hx
  clear q hl
  replace hB := hB.trans (hx.mono zB)
  clear hx; (try clear zB)
  have zB := hB.size
  have iz := intZ (-9223372036854775808) (by decide) (by decide)
  have ix := Lib.hid (intX (-9223372036854775808) (by decide) (by decide))
  generalize intW ⟨#[]⟩ (-9223372036854775808) = iw at *
  go_wp2_with fail
  refine (openC _ _).mono ?_
  rintro e a22 ⟨rfl, hr, hx1⟩
  go_wp2_with fail
  refine (intRC _ ⟨_, 0⟩ iz _ hr).mono ?_
  rw [ix.out]
  rintro e w22 ⟨rfl, hr2, hg⟩
  have hx := gr_new_below hx1 hg
  replace hrow := row_on hrow hx
  clear hr hr2 hg hx1 iz ix
  replace hB := hB.trans (hx.mono zB)
  clear hx; (try clear zB)
  have zB := hB.size
  go_wp2_with fail
  rw [rounds_succ]
  have q : w22.cell? ⟨g19, 1, none⟩ = some (.int .i64 9223372036854775807) := cell_mark hrow 1
  have hl := row_lt hrow
  go_wp2_with fail
  refine (intC ⟨#[]⟩ 9223372036854775807 (by decide) (by decide) (by decide) _).mono ?_
  rintro e b24 ⟨rfl, hx⟩
  replace hrow := row_on hrow hx
  clear q hl
  replace hB := hB.trans (hx.mono zB)
  clear hx; (try clear zB)
  have zB := hB.size
  have iz := intZ 9223372036854775807 (by decide) (by decide)
  have ix := Lib.hid (intX 9223372036854775807 (by decide) (by decide))
  generalize intW ⟨#[]⟩ 9223372036854775807 = iw at *
  go_wp2_with fail
  refine (openC _ _).mono ?_
  rintro e a26 ⟨rfl, hr, hx1⟩
  go_wp2_with fail
  refine (intRC _ ⟨_, 0⟩ iz _ hr).mono ?_
  rw [ix.out]
  rintro e w26 ⟨rfl, hr2, hg⟩
  have hx := gr_new_below hx1 hg
  replace hrow := row_on hrow hx
  clear hr hr2 hg hx1 iz ix
  replace hB := hB.trans (hx.mono zB)
  clear hx; (try clear zB)
  have zB := hB.size
  go_wp2_with fail
  rw [rounds_succ]
  have q : w26.cell? ⟨g19, 2, none⟩ = some (.int .i64 (-1)) := cell_mark hrow 2
  have hl := row_lt hrow
  go_wp2_with fail
  refine (intC ⟨#[]⟩ (-1) (by decide) (by decide) (by decide) _).mono ?_
  rintro e b28 ⟨rfl, hx⟩
  replace hrow := row_on hrow hx
  clear q hl
  replace hB := hB.trans (hx.mono zB)
  clear hx; (try clear zB)
  have zB := hB.size
  have iz := intZ (-1) (by decide) (by decide)
  have ix := Lib.hid (intX (-1) (by decide) (by decide))
  generalize intW ⟨#[]⟩ (-1) = iw at *
  go_wp2_with fail
  refine (openC _ _).mono ?_
  rintro e a30 ⟨rfl, hr, hx1⟩
  go_wp2_with fail
  refine (intRC _ ⟨_, 0⟩ iz _ hr).mono ?_
  rw [ix.out]
  rintro e w30 ⟨rfl, hr2, hg⟩
  have hx := gr_new_below hx1 hg
  replace hrow := row_on hrow hx
  clear hr hr2 hg hx1 iz ix
  replace hB := hB.trans (hx.mono zB)
  clear hx; (try clear zB)
  have zB := hB.size
  go_wp2_with fail
  rw [rounds_succ]
  have q : w30.cell? ⟨g19, 3, none⟩ = some (.int .i64 0) := cell_mark hrow 3
  have hl := row_lt hrow
  go_wp2_with fail
  refine (intC ⟨#[]⟩ 0 (by decide) (by decide) (by decide) _).mono ?_
  rintro e b32 ⟨rfl, hx⟩
  replace hrow := row_on hrow hx
  clear q hl
  replace hB := hB.trans (hx.mono zB)
  clear hx; (try clear zB)
  have zB := hB.size
  have iz := intZ 0 (by decide) (by decide)
  have ix := Lib.hid (intX 0 (by decide) (by decide))
  generalize intW ⟨#[]⟩ 0 = iw at *
  go_wp2_with fail
  refine (openC _ _).mono ?_
  rintro e a34 ⟨rfl, hr, hx1⟩
  go_wp2_with fail
  refine (intRC _ ⟨_, 0⟩ iz _ hr).mono ?_
  rw [ix.out]
  rintro e w34 ⟨rfl, hr2, hg⟩
  have hx := gr_new_below hx1 hg
  replace hrow := row_on hrow hx
  clear hr hr2 hg hx1 iz ix
  replace hB := hB.trans (hx.mono zB)
  clear hx; (try clear zB)
  have zB := hB.size
  go_wp2_with fail
  rw [rounds_succ]
  clear hrow
  have mk := mk41
  have cv := cv41
  go_wp2_with fail
  have hrow : ((w34.alloc (.cells zrow 5)).alloc (.cells #[.int .u8 4, .int .i64 0, .string ⟨#[]⟩, .int .u8 0, .int .i64 1, .string ⟨#[]⟩, .int .u8 0, .int .i64 0, .string ⟨#[97]⟩, .int .u8 1, .int .i64 0, .string ⟨#[97]⟩, .int .u8 2, .int .i64 2, .string ⟨#[]⟩, .int .u8 2, .int .i64 (-1), .string ⟨#[]⟩, .int .u8 3, .int .i64 1, .string ⟨#[]⟩, .int .u8 3, .int .i64 0, .string z41] 23)).heap[w34.heap.size + 1]? = some (.cells #[.int .u8 4, .int .i64 0, .string ⟨#[]⟩, .int .u8 0, .int .i64 1, .string ⟨#[]⟩, .int .u8 0, .int .i64 0, .string ⟨#[97]⟩, .int .u8 1, .int .i64 0, .string ⟨#[97]⟩, .int .u8 2, .int .i64 2, .string ⟨#[]⟩, .int .u8 2, .int .i64 (-1), .string ⟨#[]⟩, .int .u8 3, .int .i64 1, .string ⟨#[]⟩, .int .u8 3, .int .i64 0, .string z41] 23) := by
    have h := heap_alloc_new (w34.alloc (.cells zrow 5)) (.cells #[.int .u8 4, .int .i64 0, .string ⟨#[]⟩, .int .u8 0, .int .i64 1, .string ⟨#[]⟩, .int .u8 0, .int .i64 0, .string ⟨#[97]⟩, .int .u8 1, .int .i64 0, .string ⟨#[97]⟩, .int .u8 2, .int .i64 2, .string ⟨#[]⟩, .int .u8 2, .int .i64 (-1), .string ⟨#[]⟩, .int .u8 3, .int .i64 1, .string ⟨#[]⟩, .int .u8 3, .int .i64 0, .string z41] 23)
    rw [World.size_alloc] at h
    exact h
  have hx : Below w34.heap.size w34 ((w34.alloc (.cells zrow 5)).alloc (.cells #[.int .u8 4, .int .i64 0, .string ⟨#[]⟩, .int .u8 0, .int .i64 1, .string ⟨#[]⟩, .int .u8 0, .int .i64 0, .string ⟨#[97]⟩, .int .u8 1, .int .i64 0, .string ⟨#[97]⟩, .int .u8 2, .int .i64 2, .string ⟨#[]⟩, .int .u8 2, .int .i64 (-1), .string ⟨#[]⟩, .int .u8 3, .int .i64 1, .string ⟨#[]⟩, .int .u8 3, .int .i64 0, .string z41] 23)) := by (repeat' (first | (with_reducible exact Below.refl _ _) | (with_reducible assumption) | (with_reducible refine Below.alloc ?_ ?_ _) | (with_reducible refine Below.drew ?_) | (with_reducible refine below_drewN ?_ _) | (with_reducible refine Below.setCell ?_ ?_ _) | (with_reducible refine Below.trans ?_ (Below.mono (by with_reducible assumption) ?_)) | (simp only [World.size_alloc, World.size_setCell, World.heap_drewN, World.size_drew]; omega) | omega | (simp; omega) | (simp; done)))
  replace hB := hB.trans (hx.mono zB)
  clear hx; (try clear zB)
  have zB := hB.size
  generalize hW37 : ((w34.alloc (.cells zrow 5)).alloc (.cells #[.int .u8 4, .int .i64 0, .string ⟨#[]⟩, .int .u8 0, .int .i64 1, .string ⟨#[]⟩, .int .u8 0, .int .i64 0, .string ⟨#[97]⟩, .int .u8 1, .int .i64 0, .string ⟨#[97]⟩, .int .u8 2, .int .i64 2, .string ⟨#[]⟩, .int .u8 2, .int .i64 (-1), .string ⟨#[]⟩, .int .u8 3, .int .i64 1, .string ⟨#[]⟩, .int .u8 3, .int .i64 0, .string z41] 23)) = W37 at *
  clear hW37 mk cv
  generalize hg37 : w34.heap.size + 1 = g37 at *
  clear hg37
  refine wp_loop_rounds 9 ?_
  rw [rounds_succ]
  have q0 : W37.cell? ⟨g37, 0, none⟩ = some (.int .u8 4) := cell_mark hrow 0
  have q1 : W37.cell? ⟨g37, 1, none⟩ = some (.int .i64 0) := cell_mark hrow 1
  have q2 : W37.cell? ⟨g37, 2, none⟩ = some (.string ⟨#[]⟩) := cell_mark hrow 2
  have hl := row_lt hrow
  go_wp2_with fail
  refine (valF ⟨4, 0, ⟨#[]⟩⟩ (by decide +kernel) (by decide) (by decide) (by decide) _).mono ?_
  rintro e b38 ⟨rfl, hx1⟩
  have hx := ((Below.refl W37.heap.size W37).alloc (Nat.le_refl _) _).trans (hx1.mono (by simp))
  replace hrow := row_on hrow hx
  clear q0 q1 q2 hl hx1
  replace hB := hB.trans (hx.mono zB)
  clear hx; (try clear zB)
  have zB := hB.size
  go_wp2_with fail
  rw [rounds_succ]
  have q0 : b38.cell? ⟨g37, 3, none⟩ = some (.int .u8 0) := cell_mark hrow 3
  have q1 : b38.cell? ⟨g37, 4, none⟩ = some (.int .i64 1) := cell_mark hrow 4
  have q2 : b38.cell? ⟨g37, 5, none⟩ = some (.string ⟨#[]⟩) := cell_mark hrow 5
  have hl := row_lt hrow
  go_wp2_with fail
  refine (valF ⟨0, 1, ⟨#[]⟩⟩ (by decide +kernel) (by decide) (by decide) (by decide) _).mono ?_
  rintro e b40 ⟨rfl, hx1⟩
  have hx := ((Below.refl b38.heap.size b38).alloc (Nat.le_refl _) _).trans (hx1.mono (by simp))
  replace hrow := row_on hrow hx
  clear q0 q1 q2 hl hx1
  replace hB := hB.trans (hx.mono zB)
  clear hx; (try clear zB)
  have zB := hB.size
  go_wp2_with fail
  rw [rounds_succ]
  have q0 : b40.cell? ⟨g37, 6, none⟩ = some (.int .u8 0) := cell_mark hrow 6
  have q1 : b40.cell? ⟨g37, 7, none⟩ = some (.int .i64 0) := cell_mark hrow 7
  have q2 : b40.cell? ⟨g37, 8, none⟩ = some (.string ⟨#[97]⟩) := cell_mark hrow 8
  have hl := row_lt hrow
  go_wp2_with fail
  refine (valF ⟨0, 0, ⟨#[97]⟩⟩ (by decide +kernel) (by decide) (by decide) (by decide) _).mono ?_
  rintro e b42 ⟨rfl, hx1⟩
  have hx := ((Below.refl b40.heap.size b40).alloc (Nat.le_refl _) _).trans (hx1.mono (by simp))
  replace hrow := row_on hrow hx
  clear q0 q1 q2 hl hx1
  replace hB := hB.trans (hx.mono zB)
  clear hx; (try clear zB)
  have zB := hB.size
  go_wp2_with fail
  rw [rounds_succ]
  have q0 : b42.cell? ⟨g37, 9, none⟩ = some (.int .u8 1) := cell_mark hrow 9
  have q1 : b42.cell? ⟨g37, 10, none⟩ = some (.int .i64 0) := cell_mark hrow 10
  have q2 : b42.cell? ⟨g37, 11, none⟩ = some (.string ⟨#[97]⟩) := cell_mark hrow 11
  have hl := row_lt hrow
  go_wp2_with fail
  refine (valF ⟨1, 0, ⟨#[97]⟩⟩ (by decide +kernel) (by decide) (by decide) (by decide) _).mono ?_
  rintro e b44 ⟨rfl, hx1⟩
  have hx := ((Below.refl b42.heap.size b42).alloc (Nat.le_refl _) _).trans (hx1.mono (by simp))
  replace hrow := row_on hrow hx
  clear q0 q1 q2 hl hx1
  replace hB := hB.trans (hx.mono zB)
  clear hx; (try clear zB)
  have zB := hB.size
  go_wp2_with fail
  rw [rounds_succ]
  have q0 : b44.cell? ⟨g37, 12, none⟩ = some (.int .u8 2) := cell_mark hrow 12
  have q1 : b44.cell? ⟨g37, 13, none⟩ = some (.int .i64 2) := cell_mark hrow 13
  have q2 : b44.cell? ⟨g37, 14, none⟩ = some (.string ⟨#[]⟩) := cell_mark hrow 14
  have hl := row_lt hrow
  go_wp2_with fail
  refine (valF ⟨2, 2, ⟨#[]⟩⟩ (by decide +kernel) (by decide) (by decide) (by decide) _).mono ?_
  rintro e b46 ⟨rfl, hx1⟩
  have hx := ((Below.refl b44.heap.size b44).alloc (Nat.le_refl _) _).trans (hx1.mono (by simp))
  replace hrow := row_on hrow hx
  clear q0 q1 q2 hl hx1
  replace hB := hB.trans (hx.mono zB)
  clear hx; (try clear zB)
  have zB := hB.size
  go_wp2_with fail
  rw [rounds_succ]
  have q0 : b46.cell? ⟨g37, 15, none⟩ = some (.int .u8 2) := cell_mark hrow 15
  have q1 : b46.cell? ⟨g37, 16, none⟩ = some (.int .i64 (-1)) := cell_mark hrow 16
  have q2 : b46.cell? ⟨g37, 17, none⟩ = some (.string ⟨#[]⟩) := cell_mark hrow 17
  have hl := row_lt hrow
  go_wp2_with fail
  refine (valF ⟨2, (-1), ⟨#[]⟩⟩ (by decide +kernel) (by decide) (by decide) (by decide) _).mono ?_
  rintro e b48 ⟨rfl, hx1⟩
  have hx := ((Below.refl b46.heap.size b46).alloc (Nat.le_refl _) _).trans (hx1.mono (by simp))
  replace hrow := row_on hrow hx
  clear q0 q1 q2 hl hx1
  replace hB := hB.trans (hx.mono zB)
  clear hx; (try clear zB)
  have zB := hB.size
  go_wp2_with fail
  rw [rounds_succ]
  have q0 : b48.cell? ⟨g37, 18, none⟩ = some (.int .u8 3) := cell_mark hrow 18
  have q1 : b48.cell? ⟨g37, 19, none⟩ = some (.int .i64 1) := cell_mark hrow 19
  have q2 : b48.cell? ⟨g37, 20, none⟩ = some (.string ⟨#[]⟩) := cell_mark hrow 20
  have hl := row_lt hrow
  go_wp2_with fail
  refine (valF ⟨3, 1, ⟨#[]⟩⟩ (by decide +kernel) (by decide) (by decide) (by decide) _).mono ?_
  rintro e b50 ⟨rfl, hx1⟩
  have hx := ((Below.refl b48.heap.size b48).alloc (Nat.le_refl _) _).trans (hx1.mono (by simp))
  replace hrow := row_on hrow hx
  clear q0 q1 q2 hl hx1
  replace hB := hB.trans (hx.mono zB)
  clear hx; (try clear zB)
  have zB := hB.size
  go_wp2_with fail
  rw [rounds_succ]
  have q0 : b50.cell? ⟨g37, 21, none⟩ = some (.int .u8 3) := cell_mark hrow 21
  have q1 : b50.cell? ⟨g37, 22, none⟩ = some (.int .i64 0) := cell_mark hrow 22
  have q2 : b50.cell? ⟨g37, 23, none⟩ = some (.string z41) := cell_mark hrow 23
  have hl := row_lt hrow
  go_wp2_with fail
  refine (valF ⟨3, 0, z41⟩ may41 (by decide) (by decide) (by decide) _).mono ?_
  rintro e b52 ⟨rfl, hx1⟩
  have hx := ((Below.refl b50.heap.size b50).alloc (Nat.le_refl _) _).trans (hx1.mono (by simp))
  replace hrow := row_on hrow hx
  clear q0 q1 q2 hl hx1
  replace hB := hB.trans (hx.mono zB)
  clear hx; (try clear zB)
  have zB := hB.size
  go_wp2_with fail
  rw [rounds_succ]
  clear hrow
  go_wp2_with fail
  refine (openC _ _).mono ?_
  rintro e a54 ⟨rfl, hr, hx1⟩
  go_wp2_with fail
  refine (valRC _ ⟨_, 0⟩ (by decide) _ hr).mono ?_
  rw [n_4]
  rintro e w54 ⟨rfl, hr2, hg⟩
  have hx := gr_new_below hx1 hg
  clear hr hr2 hg hx1
  replace hB := hB.trans (hx.mono zB)
  clear hx; (try clear zB)
  have zB := hB.size
  have hx := (Below.refl w54.heap.size w54).alloc (Nat.le_refl _) (.cells #[.int .u8 0, .int .i64 0, .string ⟨#[]⟩] 23)
  replace hB := hB.trans (hx.mono zB)
  clear hx; (try clear zB)
  have zB := hB.size
  go_wp2_with fail
  refine (openC _ _).mono ?_
  rintro e a57 ⟨rfl, hr, hx1⟩
  rw [World.size_alloc] at hr hx1 zB
  go_wp2_with fail
  refine (valRC _ ⟨_, 0⟩ (by decide) _ hr).mono ?_
  rw [n_22]
  rintro e w57 ⟨rfl, hr2, hg⟩
  have hx := gr_new_at (by simp) hx1 hg
  clear hr hr2 hg hx1
  replace hB := hB.trans (hx.mono zB)
  clear hx; (try clear zB)
  have zB := hB.size
  have hx := (Below.refl w57.heap.size w57).alloc (Nat.le_refl _) (.cells #[.int .u8 0, .int .i64 0, .string ⟨#[]⟩] 23)
  replace hB := hB.trans (hx.mono zB)
  clear hx; (try clear zB)
  have zB := hB.size
  go_wp2_with fail
  refine (openC _ _).mono ?_
  rintro e a60 ⟨rfl, hr, hx1⟩
  rw [World.size_alloc] at hr hx1 zB
  go_wp2_with fail
  refine (valRC _ ⟨_, 0⟩ (by decide) _ hr).mono ?_
  rw [n_341]
  rintro e w60 ⟨rfl, hr2, hg⟩
  have hx := gr_new_at (by simp) hx1 hg
  clear hr hr2 hg hx1
  replace hB := hB.trans (hx.mono zB)
  clear hx; (try clear zB)
  have zB := hB.size
  have hx := (Below.refl w60.heap.size w60).alloc (Nat.le_refl _) (.cells #[.int .u8 0, .int .i64 0, .string ⟨#[]⟩] 23)
  replace hB := hB.trans (hx.mono zB)
  clear hx; (try clear zB)
  have zB := hB.size
  go_wp2_with fail
  refine (openC _ _).mono ?_
  rintro e a63 ⟨rfl, hr, hx1⟩
  rw [World.size_alloc] at hr hx1 zB
  go_wp2_with fail
  refine (textRC _ 5 ⟨_, 0⟩ (by decide) _ hr).mono ?_
  rw [n_t5]
  rintro e w63 ⟨rfl, hr2, hg⟩
  have hx := gr_new_at (by simp) hx1 hg
  clear hr hr2 hg hx1
  replace hB := hB.trans (hx.mono zB)
  clear hx; (try clear zB)
  have zB := hB.size
  go_wp2_with fail
  refine (openC _ _).mono ?_
  rintro e a65 ⟨rfl, hr, hx1⟩
  go_wp2_with fail
  refine (textRC _ 4 ⟨_, 0⟩ (by decide) _ hr).mono ?_
  rw [n_t4]
  rintro e w65 ⟨rfl, hr2, hg⟩
  have hx := gr_new_below hx1 hg
  clear hr hr2 hg hx1
  replace hB := hB.trans (hx.mono zB)
  clear hx; (try clear zB)
  have zB := hB.size
  go_wp2_with fail
  refine (openC _ _).mono ?_
  rintro e a67 ⟨rfl, hr, hx1⟩
  go_wp2_with fail
  refine (textRC _ (-1) ⟨_, 0⟩ (by decide) _ hr).mono ?_
  rw [n_tm]
  rintro e w67 ⟨rfl, hr2, hg⟩
  have hx := gr_new_below hx1 hg
  clear hr hr2 hg hx1
  replace hB := hB.trans (hx.mono zB)
  clear hx; (try clear zB)
  have zB := hB.size
  go_wp2_with fail
  refine (openC _ _).mono ?_
  rintro e a69 ⟨rfl, hr, hx1⟩
  go_wp2_with fail
  refine (intRC _ ⟨_, 0⟩ (by decide) _ hr).mono ?_
  rw [n_i2]
  rintro e w69 ⟨rfl, hr2, hg⟩
  have hx := gr_new_below hx1 hg
  clear hr hr2 hg hx1
  replace hB := hB.trans (hx.mono zB)
  clear hx; (try clear zB)
  have zB := hB.size
  go_wp2_with fail
  refine (openC _ _).mono ?_
  rintro e a71 ⟨rfl, hr, hx1⟩
  go_wp2_with fail
  refine (intRC _ ⟨_, 0⟩ (by decide) _ hr).mono ?_
  rw [n_i1]
  rintro e w71 ⟨rfl, hr2, hg⟩
  have hx := gr_new_below hx1 hg
  clear hr hr2 hg hx1
  replace hB := hB.trans (hx.mono zB)
  clear hx; (try clear zB)
  have zB := hB.size
  go_wp2_with fail
  refine (openC _ _).mono ?_
  rintro e a73 ⟨rfl, hr, hx1⟩
  go_wp2_with fail
  refine (numRC _ ⟨_, 0⟩ (by decide) _ hr).mono ?_
  rw [n_n]
  rintro e w73 ⟨rfl, hr2, hg⟩
  have hx := gr_new_below hx1 hg
  clear hr hr2 hg hx1
  replace hB := hB.trans (hx.mono zB)
  clear hx; (try clear zB)
  have zB := hB.size
  go_wp2_with fail
  refine (awakeC _).mono ?_
  rintro e w75 ⟨rfl, hx⟩
  replace hB := hB.trans (hx.mono zB)
  clear hx; (try clear zB)
  have zB := hB.size
  go_wp2_with fail
  go_ret
  exact ⟨rfl, hB⟩
end Go.Proofs.Ytijhdnpaeliaoaa.LawWireNames
