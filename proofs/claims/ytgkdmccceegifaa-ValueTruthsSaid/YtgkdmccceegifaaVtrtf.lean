/- ValueTruths, the walk where p = true and q = false. No condition. -/
import Derived.Test.YtgkdmccceegifaaVtr
namespace Go.Proofs.Ytgkdmccceegifaa.Vtr
open Go.RowKit Go.Sort Go.Proofs.Ytgkdmccceegifaa.Vy Go.Proofs.Ytgkdmccceegifaa.Vm Go.Proofs.Ytgkdmccceegifaa.Va Go.Proofs.Ytgkdmccceegifaa.Vc Go.Proofs.Ytgkdmccceegifaa.Vt Go.Proofs.Ytgkdmccceegifaa.Vz Go.Proofs.Ytgkdmccceegifaa.Vo Go.Proofs.Ytgkdmccceegifaa.Vx
set_option linter.unusedVariables false
set_option linter.unusedSimpArgs false
set_option maxRecDepth 100000
set_option maxHeartbeats 8000000 in
theorem walk_true_false (w : World) : Calls Try.prog 6 #[.bool true, .bool false] w fun e w' => e = .returned (.bool true) ∧ Below w.heap.size w w' := by
  go_enter Try.func6, Try.ntmps6
  go_upto_region 2 with (first | (go_at_call 13; refine (truthC _ _).mono ?_; rintro e w1 ⟨rfl, hb1⟩; have zhb1 := hb1.size; (try simp only [World.size_alloc, World.size_setCell, World.heap_drewN, World.size_drew] at zhb1)))
  have kA : Kv w1.heap.size (truth true) ((w1.alloc (.cells #[.int .u8 2, .int .i64 (b2i true), .string ⟨#[]⟩] 23)).alloc (.cells #[.int .u8 2, .int .i64 (b2i false), .string ⟨#[]⟩] 23)) := ⟨by simp [go_sem, truth], by simp [go_sem, truth], by simp [go_sem, truth]⟩
  have kB : Kv (w1.heap.size + 1) (truth false) ((w1.alloc (.cells #[.int .u8 2, .int .i64 (b2i true), .string ⟨#[]⟩] 23)).alloc (.cells #[.int .u8 2, .int .i64 (b2i false), .string ⟨#[]⟩] 23)) := ⟨by simp [go_sem, truth], by simp [go_sem, truth], by simp [go_sem, truth]⟩
  have hB : Below w.heap.size w ((w1.alloc (.cells #[.int .u8 2, .int .i64 (b2i true), .string ⟨#[]⟩] 23)).alloc (.cells #[.int .u8 2, .int .i64 (b2i false), .string ⟨#[]⟩] 23)) := by (repeat' (first | (with_reducible exact Below.refl _ _) | (with_reducible assumption) | (with_reducible refine Below.alloc ?_ ?_ _) | (with_reducible refine Below.drew ?_) | (with_reducible refine below_drewN ?_ _) | (with_reducible refine Below.setCell ?_ ?_ _) | (with_reducible refine Below.trans ?_ (Below.mono (by with_reducible assumption) ?_)) | (simp only [World.size_alloc, World.size_setCell, World.heap_drewN, World.size_drew]; omega) | omega | (simp; omega) | (simp; done)))
  generalize ((w1.alloc (.cells #[.int .u8 2, .int .i64 (b2i true), .string ⟨#[]⟩] 23)).alloc (.cells #[.int .u8 2, .int .i64 (b2i false), .string ⟨#[]⟩] 23)) = W0 at *
  generalize w1.heap.size + 1 = gb at *
  generalize w1.heap.size = ga at *
  clear hb1 zhb1
  go_wp2_with fail
  (try dsimp only [List.append])
  obtain ⟨xa, xb, xc⟩ := ktr1 kA
  obtain ⟨ya, yb, yc⟩ := ktr0 kB
  have pa := cell_regrown xa
  have pb := cell_regrown xb
  have pc := cell_regrown xc
  have qa := cell_regrown ya
  have qb := cell_regrown yb
  have qc := cell_regrown yc
  clear xa xb xc ya yb yc kA kB
  refine wp_region_quiet_below (by kernel_rfl) (by kernel_rfl) ?_
  repeat (go_big_quiet_step ((first | with_reducible exact Calls.regrown_of (worksC _) | with_reducible exact Calls.regrown_of (yes1 _) | with_reducible exact Calls.regrown_of (yes0 _) | with_reducible exact Calls.regrown_of (not1 _) | with_reducible exact Calls.regrown_of (not0 _)  | with_reducible exact Calls.regrown_of (and00 _) | with_reducible exact Calls.regrown_of (and01 _) | with_reducible exact Calls.regrown_of (and10 _) | with_reducible exact Calls.regrown_of (and11 _) | with_reducible exact Calls.regrown_of (or00 _) | with_reducible exact Calls.regrown_of (or01 _) | with_reducible exact Calls.regrown_of (or10 _) | with_reducible exact Calls.regrown_of (or11 _) | with_reducible exact Calls.regrown_of (eq00 _) | with_reducible exact Calls.regrown_of (eq01 _) | with_reducible exact Calls.regrown_of (eq10 _) | with_reducible exact Calls.regrown_of (eq11 _))))
  refine wpQuiet_nil ?_
  intro _ hw'
  obtain ⟨⟨dq, osq⟩, hw''⟩ := hw'
  subst hw''
  clear pa pb pc qa qb qc
  have hq := below_regrown W0 dq osq
  go_wp2_with fail
  go_returns
  exact ⟨rfl, on2 hB hq⟩
end Go.Proofs.Ytgkdmccceegifaa.Vtr
