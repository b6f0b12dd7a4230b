/- value.numbers at one operator: its call's contract. Condition: for a quotient or what is left, the second number is not 0. -/
import Derived.Test.YtgkdmccceegifaaVc
namespace Go.Proofs.Ytgkdmccceegifaa.Vc
open Go.RowKit Go.Proofs.Ytgkdmccceegifaa.Vm Go.Proofs.Ytgkdmccceegifaa.Va Go.Proofs.Ytgkdmccceegifaa.Vb
set_option linter.unusedVariables false
set_option linter.unusedSimpArgs false
set_option maxHeartbeats 2000000 in
theorem num5C (a b : Int) (w : World) : Calls Try.prog 20 #[.int .u8 5, .int .i64 a, .int .i64 b] w (NumPost 5 a b w) := by
  have hop : opn 5 a b = mul a b := by simp [opn]
  have HOP := Lib.hid hop
  clear hop
  go_enter Try.func20, Try.ntmps20
  go_upto_region 1 with fail
  go_cut [21] (fun t W' => t = .bool false ∧ W' = ((w.alloc (.cells #[.int .i64 a] 2)).alloc (.cells #[.int .i64 b] 2)).alloc (.cells #[.int .u8 0, .int .i64 0, .string ⟨#[]⟩] 23))
  case first =>
    cases eb : (b == 0)
    · go_wp2_with fail
      (try go_simp)
      go_meet
      exact ⟨rfl, rfl⟩
    · go_wp2_with fail
      (try go_simp)
      go_meet
      exact ⟨rfl, rfl⟩
  case rest =>
    obtain ⟨rfl, hw⟩ := hcut
    subst hw
    go_upto_region 3 with fail
    go_cut [4, 5, 6, 8] (Held w a b)
    case first =>
      cases e1 : (a != -9223372036854775808) <;> cases e2 : (b != -1)
      all_goals
        go_wp2_with fail
        (try go_simp)
        go_meet
        refine ⟨_, _, _, _, rfl, rfl, rfl, rfl, by simp [go_sem], by simp [go_sem], by simp [go_sem, whole, lo, e1, e2], by simp [go_sem], by simp [go_sem], by simp [go_sem], fun j => by simp [go_sem], by first | omega | (simp; omega), by (repeat' (first | (with_reducible exact Below.refl _ _) | (with_reducible assumption) | (with_reducible refine Below.alloc ?_ ?_ _) | (with_reducible refine Below.drew ?_) | (with_reducible refine below_drewN ?_ _) | (with_reducible refine Below.setCell ?_ ?_ _) | (with_reducible refine Below.trans ?_ (Below.mono (by with_reducible assumption) ?_)) | (simp only [World.size_alloc, World.size_setCell, World.heap_drewN, World.size_drew]; omega) | omega | (simp; omega) | (simp; done)))⟩
    case rest =>
      obtain ⟨g4, g5, g6, g8, rfl, rfl, rfl, rfl, h4, h5, h8, h60, h61, h62, hf6, hg6, hB⟩ := hcut
      have zB := hB.size
      cases eo : (mul a b).2
      all_goals
        have EO : Hid ((opn 5 a b).2 = _) := (by rw [HOP.out]; exact eo)
        go_wp2_with fail
        refine (k1C _ _ a b _ (al h4) (al h5)).mono ?_
        rintro e w1 ⟨rfl, hb1⟩
        have B1 : Below wc.heap.size wc w1 := by (repeat' (first | (with_reducible exact Below.refl _ _) | (with_reducible assumption) | (with_reducible refine Below.alloc ?_ ?_ _) | (with_reducible refine Below.drew ?_) | (with_reducible refine below_drewN ?_ _) | (with_reducible refine Below.setCell ?_ ?_ _) | (with_reducible refine Below.trans ?_ (Below.mono (by with_reducible assumption) ?_)) | (simp only [World.size_alloc, World.size_setCell, World.heap_drewN, World.size_drew]; omega) | omega | (simp; omega) | (simp; done)))
        have z1 := B1.size
        have q0 := cell_on B1 h60
        have q1 := cell_on B1 h61
        have q2 := cell_on B1 h62
        have qf := frozen_on B1 (lt_of_cell h60) hf6
        go_wp2_with (go_at_call 33; refine (numC _ _).mono ?_; rintro e w2 ⟨rfl, hb2⟩; have z2 := hb2.size; have p0 := cell_on hb2 q0; have p1 := cell_on hb2 q1; have p2 := cell_on hb2 q2; have pf := frozen_on hb2 (lt_of_cell q0) qf)
        first
          | (refine bodyPost_ret (v := .tuple #[.agg #[.int .u8 0, .int .i64 0, .string ⟨#[]⟩], .int .i64 20]) (by simp [results, Try.results20, go_sem, q0, q1, q2]) rfl ?_
             exact NumPost.no (by omega) EO.out rfl (by (repeat' (first | (with_reducible exact Below.refl _ _) | (with_reducible assumption) | (with_reducible refine Below.alloc ?_ ?_ _) | (with_reducible refine Below.drew ?_) | (with_reducible refine below_drewN ?_ _) | (with_reducible refine Below.setCell ?_ ?_ _) | (with_reducible refine Below.trans ?_ (Below.mono (by with_reducible assumption) ?_)) | (simp only [World.size_alloc, World.size_setCell, World.heap_drewN, World.size_drew]; omega) | omega | (simp; omega) | (simp; done)))))
          | (refine bodyPost_ret (v := .tuple #[.agg #[.int .u8 1, .int .i64 (opn 5 a b).1, .string ⟨#[]⟩], .int .i64 0]) (by rw [HOP.out]; simp [results, Try.results20, go_sem, p0, p1, p2]) rfl ?_
             exact NumPost.ok (by omega) EO.out rfl (by (repeat' (first | (with_reducible exact Below.refl _ _) | (with_reducible assumption) | (with_reducible refine Below.alloc ?_ ?_ _) | (with_reducible refine Below.drew ?_) | (with_reducible refine below_drewN ?_ _) | (with_reducible refine Below.setCell ?_ ?_ _) | (with_reducible refine Below.trans ?_ (Below.mono (by with_reducible assumption) ?_)) | (simp only [World.size_alloc, World.size_setCell, World.heap_drewN, World.size_drew]; omega) | omega | (simp; omega) | (simp; done)))))
end Go.Proofs.Ytgkdmccceegifaa.Vc
