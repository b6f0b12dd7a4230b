/- The reference's operator of two, as a contract of its call; and the walk of ValueTwo. No condition but the numbers' own range. -/
import Derived.Test.YtgkdmccceegifaaVh5
import Derived.Test.YtgkdmccceegifaaVh6
import Derived.Test.YtgkdmccceegifaaVh7
import Derived.Test.YtgkdmccceegifaaVh8
import Derived.Test.YtgkdmccceegifaaVh9
import Derived.Test.YtgkdmccceegifaaVh10
import Derived.Test.YtgkdmccceegifaaVh11
import Derived.Test.YtgkdmccceegifaaVh12
import Derived.Test.YtgkdmccceegifaaVh13
import Derived.Test.YtgkdmccceegifaaVh14
import Derived.Test.YtgkdmccceegifaaVh15
namespace Go.Proofs.Ytgkdmccceegifaa.Vf
open Go.RowKit Go.Proofs.Ytgkdmccceegifaa.Vm Go.Proofs.Ytgkdmccceegifaa.Va Go.Proofs.Ytgkdmccceegifaa.Vc Go.Proofs.Ytgkdmccceegifaa.Vt Go.Proofs.Ytgkdmccceegifaa.Vz Go.Proofs.Ytgkdmccceegifaa.Vq
set_option linter.unusedVariables false
set_option linter.unusedSimpArgs false
set_option maxHeartbeats 4000000
set_option maxRecDepth 100000
theorem rtwo_none (op : Int) (a b : V) (w : World) (h : op < 5 ∨ 15 < op) : Calls Try.prog 9 #[.int .u8 op, .agg #[.int .u8 a.k, .int .i64 a.n, .string a.t], .agg #[.int .u8 b.k, .int .i64 b.n, .string b.t]] w (TwoPost op a b w) := by
  have HT := Lib.hid (show two op a b = (V.zero, 4) from if_pos h)
  by_cases h1 : op < 5
  · clear h
    go_enter Try.func9, Try.ntmps9
    go_wp2
    refine bodyPost_ret (v := .tuple #[.agg #[.int .u8 0, .int .i64 0, .string ⟨#[]⟩], .int .i64 4]) (by simp [results, Try.results9, go_sem, *]) rfl ?_
    exact TwoPost.mk HT.out (by rfl) (by (repeat' (first | (with_reducible exact Below.refl _ _) | (with_reducible assumption) | (with_reducible refine Below.alloc ?_ ?_ _) | (with_reducible refine Below.drew ?_) | (with_reducible refine below_drewN ?_ _) | (with_reducible refine Below.setCell ?_ ?_ _) | (with_reducible refine Below.trans ?_ (Below.mono (by with_reducible assumption) ?_)) | (simp only [World.size_alloc, World.size_setCell, World.heap_drewN, World.size_drew]; omega) | omega | (simp; omega) | (simp; done))))
  · have h2 : 15 < op := by omega
    clear h
    go_enter Try.func9, Try.ntmps9
    go_wp2
    refine bodyPost_ret (v := .tuple #[.agg #[.int .u8 0, .int .i64 0, .string ⟨#[]⟩], .int .i64 4]) (by simp [results, Try.results9, go_sem, *]) rfl ?_
    exact TwoPost.mk HT.out (by rfl) (by (repeat' (first | (with_reducible exact Below.refl _ _) | (with_reducible assumption) | (with_reducible refine Below.alloc ?_ ?_ _) | (with_reducible refine Below.drew ?_) | (with_reducible refine below_drewN ?_ _) | (with_reducible refine Below.setCell ?_ ?_ _) | (with_reducible refine Below.trans ?_ (Below.mono (by with_reducible assumption) ?_)) | (simp only [World.size_alloc, World.size_setCell, World.heap_drewN, World.size_drew]; omega) | omega | (simp; omega) | (simp; done))))
theorem unfit_of (op : Int) (a b : V) (h5 : 5 ≤ op) (h15 : op ≤ 15) (h : a.k ≠ b.k ∨ a.k < 1 ∨ 3 < a.k) : two op a b = (V.zero, 23) := by
  have hf : fits op a b = false := by
    have e1 : ints a b = false := by simp only [ints, Bool.and_eq_false_iff, beq_eq_false_iff_ne]; omega
    have e2 : texts a b = false := by simp only [texts, Bool.and_eq_false_iff, beq_eq_false_iff_ne]; omega
    have e3 : truths a b = false := by simp only [truths, Bool.and_eq_false_iff, beq_eq_false_iff_ne]; omega
    simp [fits, e1, e2, e3]
  unfold two
  rw [if_neg (by omega), if_pos hf]
theorem rtwo_unfit (op : Int) (a b : V) (w : World) (h5 : 5 ≤ op) (h15 : op ≤ 15) (h : a.k ≠ b.k ∨ a.k < 1 ∨ 3 < a.k) : Calls Try.prog 9 #[.int .u8 op, .agg #[.int .u8 a.k, .int .i64 a.n, .string a.t], .agg #[.int .u8 b.k, .int .i64 b.n, .string b.t]] w (TwoPost op a b w) := by
  have HT := Lib.hid (unfit_of op a b h5 h15 h)
  have n5 : ¬ op < 5 := by omega
  have n15 : ¬ 15 < op := by omega
  cases k1 : (a.k != b.k)
  · have k2 : a.k = b.k := by simpa using k1
    by_cases h1 : a.k < 1
    · clear h k2
      go_enter Try.func9, Try.ntmps9
      go_wp2
      refine bodyPost_ret (v := .tuple #[.agg #[.int .u8 0, .int .i64 0, .string ⟨#[]⟩], .int .i64 23]) (by simp [results, Try.results9, go_sem, *]) rfl ?_
      exact TwoPost.mk HT.out (by rfl) (by (repeat' (first | (with_reducible exact Below.refl _ _) | (with_reducible assumption) | (with_reducible refine Below.alloc ?_ ?_ _) | (with_reducible refine Below.drew ?_) | (with_reducible refine below_drewN ?_ _) | (with_reducible refine Below.setCell ?_ ?_ _) | (with_reducible refine Below.trans ?_ (Below.mono (by with_reducible assumption) ?_)) | (simp only [World.size_alloc, World.size_setCell, World.heap_drewN, World.size_drew]; omega) | omega | (simp; omega) | (simp; done))))
    · have h3 : 3 < a.k := by omega
      clear h k2
      go_enter Try.func9, Try.ntmps9
      go_wp2
      refine bodyPost_ret (v := .tuple #[.agg #[.int .u8 0, .int .i64 0, .string ⟨#[]⟩], .int .i64 23]) (by simp [results, Try.results9, go_sem, *]) rfl ?_
      exact TwoPost.mk HT.out (by rfl) (by (repeat' (first | (with_reducible exact Below.refl _ _) | (with_reducible assumption) | (with_reducible refine Below.alloc ?_ ?_ _) | (with_reducible refine Below.drew ?_) | (with_reducible refine below_drewN ?_ _) | (with_reducible refine Below.setCell ?_ ?_ _) | (with_reducible refine Below.trans ?_ (Below.mono (by with_reducible assumption) ?_)) | (simp only [World.size_alloc, World.size_setCell, World.heap_drewN, World.size_drew]; omega) | omega | (simp; omega) | (simp; done))))
  · clear h
    go_enter Try.func9, Try.ntmps9
    go_wp2
    refine bodyPost_ret (v := .tuple #[.agg #[.int .u8 0, .int .i64 0, .string ⟨#[]⟩], .int .i64 23]) (by simp [results, Try.results9, go_sem, *]) rfl ?_
    exact TwoPost.mk HT.out (by rfl) (by (repeat' (first | (with_reducible exact Below.refl _ _) | (with_reducible assumption) | (with_reducible refine Below.alloc ?_ ?_ _) | (with_reducible refine Below.drew ?_) | (with_reducible refine below_drewN ?_ _) | (with_reducible refine Below.setCell ?_ ?_ _) | (with_reducible refine Below.trans ?_ (Below.mono (by with_reducible assumption) ?_)) | (simp only [World.size_alloc, World.size_setCell, World.heap_drewN, World.size_drew]; omega) | omega | (simp; omega) | (simp; done))))
theorem rtwoC (op : Int) (a b : V) (ha : R a.n) (hb : R b.n) (w : World) : Calls Try.prog 9 #[.int .u8 op, .agg #[.int .u8 a.k, .int .i64 a.n, .string a.t], .agg #[.int .u8 b.k, .int .i64 b.n, .string b.t]] w (TwoPost op a b w) := by
  by_cases h : op < 5 ∨ 15 < op
  · exact rtwo_none op a b w h
  by_cases hk : a.k ≠ b.k ∨ a.k < 1 ∨ 3 < a.k
  · exact rtwo_unfit op a b w (by omega) (by omega) hk
  obtain ⟨ak, an, at_⟩ := a
  obtain ⟨bk, bn, bt⟩ := b
  simp only at hk ha hb
  obtain rfl : ak = bk := by omega
  have hop : op = 5 ∨ op = 6 ∨ op = 7 ∨ op = 8 ∨ op = 9 ∨ op = 10 ∨ op = 11 ∨ op = 12 ∨ op = 13 ∨ op = 14 ∨ op = 15 := by omega
  have hk2 : ak = 1 ∨ ak = 2 ∨ ak = 3 := by omega
  clear h hk
  rcases hk2 with rfl | rfl | rfl
  · rcases hop with rfl | rfl | rfl | rfl | rfl | rfl | rfl | rfl | rfl | rfl | rfl
    · exact rtwo_5_1 an bn at_ bt ha hb w
    · exact rtwo_6_1 an bn at_ bt ha hb w
    · exact rtwo_7_1 an bn at_ bt ha hb w
    · exact rtwo_8_1 an bn at_ bt ha hb w
    · exact rtwo_9_1 an bn at_ bt ha hb w
    · exact rtwo_10_1 an bn at_ bt ha hb w
    · exact rtwo_11_1 an bn at_ bt ha hb w
    · exact rtwo_12_1 an bn at_ bt ha hb w
    · exact rtwo_13_1 an bn at_ bt ha hb w
    · exact rtwo_14_1 an bn at_ bt ha hb w
    · exact rtwo_15_1 an bn at_ bt ha hb w
  · rcases hop with rfl | rfl | rfl | rfl | rfl | rfl | rfl | rfl | rfl | rfl | rfl
    · exact rtwo_5_2 an bn at_ bt ha hb w
    · exact rtwo_6_2 an bn at_ bt ha hb w
    · exact rtwo_7_2 an bn at_ bt ha hb w
    · exact rtwo_8_2 an bn at_ bt ha hb w
    · exact rtwo_9_2 an bn at_ bt ha hb w
    · exact rtwo_10_2 an bn at_ bt ha hb w
    · exact rtwo_11_2 an bn at_ bt ha hb w
    · exact rtwo_12_2 an bn at_ bt ha hb w
    · exact rtwo_13_2 an bn at_ bt ha hb w
    · exact rtwo_14_2 an bn at_ bt ha hb w
    · exact rtwo_15_2 an bn at_ bt ha hb w
  · rcases hop with rfl | rfl | rfl | rfl | rfl | rfl | rfl | rfl | rfl | rfl | rfl
    · exact rtwo_5_3 an bn at_ bt ha hb w
    · exact rtwo_6_3 an bn at_ bt ha hb w
    · exact rtwo_7_3 an bn at_ bt ha hb w
    · exact rtwo_8_3 an bn at_ bt ha hb w
    · exact rtwo_9_3 an bn at_ bt ha hb w
    · exact rtwo_10_3 an bn at_ bt ha hb w
    · exact rtwo_11_3 an bn at_ bt ha hb w
    · exact rtwo_12_3 an bn at_ bt ha hb w
    · exact rtwo_13_3 an bn at_ bt ha hb w
    · exact rtwo_14_3 an bn at_ bt ha hb w
    · exact rtwo_15_3 an bn at_ bt ha hb w
/-- The same, its outcome under a letter. -/
theorem rtwoR (op : Int) (a b : V) (r : V × Int) (h : two op a b = r) (ha : R a.n) (hb : R b.n) (w : World) : Calls Try.prog 9 #[.int .u8 op, .agg #[.int .u8 a.k, .int .i64 a.n, .string a.t], .agg #[.int .u8 b.k, .int .i64 b.n, .string b.t]] w fun e w' =>
    e = .returned (.tuple #[.agg #[.int .u8 r.1.k, .int .i64 r.1.n, .string r.1.t], .int .i64 r.2]) ∧ Below w.heap.size w w' := by
  subst h
  exact rtwoC op a b ha hb w
end Go.Proofs.Ytgkdmccceegifaa.Vf
