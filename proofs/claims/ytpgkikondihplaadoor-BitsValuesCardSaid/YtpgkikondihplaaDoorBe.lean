/- Package bits: both, Or, And, Less as contracts. Condition: each word is a word. -/
import Derived.Test.YtpgkikondihplaaDoorBd
import Derived.Deep.RegionWith
import Derived.Deep.DrawnRows
namespace Go.Proofs.YtpgkikondihplaaDoor.Be
open Go.RowKit Go.Proofs.YtpgkikondihplaaDoor.Ba Go.Proofs.YtpgkikondihplaaDoor.Bm Go.Proofs.YtpgkikondihplaaDoor.Bb
set_option linter.unusedVariables false
set_option linter.unusedSimpArgs false
set_option maxRecDepth 100000
attribute [local go_sem ↓] Go.wp_at_zero Go.wp_at_succ
/-- The first k words are done. -/
def mix (f s : Nat → Nat) (k : Nat) : Nat → Nat := fun i => if i < k then f i else s i
theorem mix_zero (f s : Nat → Nat) : mix f s 0 = s := by funext i; unfold mix; rw [if_neg (by omega)]
theorem mix_at (f s : Nat → Nat) (k : Nat) : mix f s k k = s k := by unfold mix; rw [if_neg (by omega)]
theorem mix_next (f s : Nat → Nat) (k : Nat) : mix f s (k + 1) k = f k := by unfold mix; rw [if_pos (by omega)]
theorem mix_other (f s : Nat → Nat) {k j : Nat} (h : j ≠ k) : mix f s (k + 1) j = mix f s k j := by
  unfold mix
  by_cases hj : j < k
  · rw [if_pos (by omega), if_pos hj]
  · rw [if_neg (by omega), if_neg hj]
theorem mix_16 (f s : Nat → Nat) : row (mix f s 16) = row f := row_same fun i hi => by unfold mix; rw [if_pos hi]
set_option maxHeartbeats 400000 in
theorem both_or (s t : Nat → Nat) (hs : Word s) (ht : Word t) (w : World) : Calls Tryd.prog 37 #[.agg (row s), .agg (row t), .func (.func 40) #[] #[]] w fun e w' => e = .returned (.agg (row (orS s t))) ∧ Below w.heap.size w w' := by
  have r0 : Row w.heap.size s (((w.alloc (.cells (row s) 25)).alloc (.cells (row t) 25)).alloc (.cells (row zeroS) 25)) := ((Row.new s w).alloc _).alloc _
  have r1 : Row (w.heap.size + 1) t (((w.alloc (.cells (row s) 25)).alloc (.cells (row t) 25)).alloc (.cells (row zeroS) 25)) := by
    have := (Row.new t (w.alloc (.cells (row s) 25))).alloc (.cells (row zeroS) 25); rw [World.size_alloc] at this; exact this
  have r2 : Row (w.heap.size + 2) zeroS (((w.alloc (.cells (row s) 25)).alloc (.cells (row t) 25)).alloc (.cells (row zeroS) 25)) := by
    have := Row.new zeroS ((w.alloc (.cells (row s) 25)).alloc (.cells (row t) 25)); rw [World.size_alloc, World.size_alloc] at this; exact this
  have hB0 : Below w.heap.size w (((w.alloc (.cells (row s) 25)).alloc (.cells (row t) 25)).alloc (.cells (row zeroS) 25)) := by (repeat' (first | (with_reducible exact Below.refl _ _) | (with_reducible assumption) | (with_reducible refine Below.alloc ?_ ?_ _) | (with_reducible refine Below.drew ?_) | (with_reducible refine below_drewN ?_ _) | (with_reducible refine Below.setCell ?_ ?_ _) | (with_reducible refine Below.trans ?_ (Below.mono (by with_reducible assumption) ?_)) | (simp only [World.size_alloc, World.size_setCell, World.heap_drewN, World.size_drew]; omega) | omega | (simp; omega) | (simp; done)))
  rw [← mix_zero (orS s t) s] at r0
  go_enter Tryd.func37, Tryd.ntmps37
  go_wp2_with fail
  go_loopw [8] (fun v wr => ∃ k : Nat, k ≤ 16 ∧ v = .int .i64 k ∧ Row w.heap.size (mix (orS s t) s k) wr ∧ Row (w.heap.size + 1) t wr ∧ Row (w.heap.size + 2) zeroS wr ∧ Below w.heap.size w wr) (fun v _ => 16 - (intOf v).toNat)
  case atStart => exact ⟨0, by omega, rfl, r0, r1, r2, hB0⟩
  case round =>
    clear r0 r1 r2 hB0
    obtain ⟨k, hk, rfl, r0, r1, r2, hB⟩ := hrel
    by_cases hlt : k < 16
    · have q0 := r0.cell hlt
      rw [mix_at] at q0
      have q1 := r1.cell hlt
      have f0 := r0.free k
      have hset := r0.set (mix (orS s t) s (k + 1)) hlt (mix_next _ _ _) (fun j hj => mix_other _ _ hj)
      have r1' := r1.other ⟨w.heap.size, k, none⟩ (.int .u64 (orS s t k : Int)) (by simp)
      have r2' := r2.other ⟨w.heap.size, k, none⟩ (.int .u64 (orS s t k : Int)) (by simp)
      have hB' := hB.setCell (p := ⟨w.heap.size, k, none⟩) (by simp) (.int .u64 (orS s t k : Int))
      have hsk := hs k
      have htk := ht k
      have hz : (0 : Int) ≤ (k : Int) := by omega
      have hz16 : (k : Int) < 16 := by omega
      clear r0 r1 r2 hB
      go_wp2_with fail
      go_region_with (go_at_call 40; refine (orC (s k) (t k) hsk htk _).mono ?_; rintro e w1 ⟨rfl, rfl⟩)
      all_goals
        go_wp2_with fail
        go_roundw
        case rel => exact ⟨k + 1, by omega, by go_num, hset, r1', r2', below_drewN hB' _⟩
        case measure => simp [intOf]; omega
    · obtain rfl : k = 16 := by omega
      go_wp2_with (first | (refine ld _ rfl rfl _ rfl _ r0 ?_) | (refine st _ _ rfl rfl _ rfl _ rfl _ r2 ?_; intro w2 hr hu))
      rw [show row (orS s t) = row (mix (orS s t) s 16) from (mix_16 _ _).symm]
      refine bodyPost_ret (v := .agg (row (mix (orS s t) s 16))) (results_cell_row rfl _ _ _ _ _ _ _ rfl hr Tryd.underlying25 rfl info25) rfl ?_
      exact ⟨rfl, hu.below hB (by omega)⟩
theorem orSetC (s t : Nat → Nat) (hs : Word s) (ht : Word t) (w : World) : Calls Tryd.prog 23 #[.agg (row s), .agg (row t)] w fun e w' => e = .returned (.agg (row (orS s t))) ∧ Below w.heap.size w w' := by
  have r0 : Row w.heap.size s (((w.alloc (.cells (row s) 25)).alloc (.cells (row t) 25)).alloc (.cells (row zeroS) 25)) := ((Row.new s w).alloc _).alloc _
  have r1 : Row (w.heap.size + 1) t (((w.alloc (.cells (row s) 25)).alloc (.cells (row t) 25)).alloc (.cells (row zeroS) 25)) := by
    have := (Row.new t (w.alloc (.cells (row s) 25))).alloc (.cells (row zeroS) 25); rw [World.size_alloc] at this; exact this
  have r2 : Row (w.heap.size + 2) zeroS (((w.alloc (.cells (row s) 25)).alloc (.cells (row t) 25)).alloc (.cells (row zeroS) 25)) := by
    have := Row.new zeroS ((w.alloc (.cells (row s) 25)).alloc (.cells (row t) 25)); rw [World.size_alloc, World.size_alloc] at this; exact this
  have hB0 : Below w.heap.size w (((w.alloc (.cells (row s) 25)).alloc (.cells (row t) 25)).alloc (.cells (row zeroS) 25)) := by (repeat' (first | (with_reducible exact Below.refl _ _) | (with_reducible assumption) | (with_reducible refine Below.alloc ?_ ?_ _) | (with_reducible refine Below.drew ?_) | (with_reducible refine below_drewN ?_ _) | (with_reducible refine Below.setCell ?_ ?_ _) | (with_reducible refine Below.trans ?_ (Below.mono (by with_reducible assumption) ?_)) | (simp only [World.size_alloc, World.size_setCell, World.heap_drewN, World.size_drew]; omega) | omega | (simp; omega) | (simp; done)))
  go_enter Tryd.func23, Tryd.ntmps23
  go_wp2_with (first | (refine ld _ rfl rfl _ rfl _ r0 ?_) | (refine ld _ rfl rfl _ rfl _ r1 ?_) | fail)
  refine (both_or s t hs ht _).mono ?_
  rintro e w1 ⟨rfl, hb⟩
  have h2 : Row (w.heap.size + 2) zeroS w1 := r2.on hb
  have hB := hB0.trans (hb.mono hB0.size)
  clear r0 r1 r2 hB0 hb
  go_wp2_with (refine st _ _ rfl rfl _ rfl _ rfl _ h2 ?_; intro w2 hr hu)
  refine bodyPost_ret (v := .agg (row (orS s t))) (results_cell_row rfl _ _ _ _ _ _ _ rfl hr Tryd.underlying25 rfl info25) rfl ?_
  exact ⟨rfl, hu.below hB (by omega)⟩
set_option maxHeartbeats 400000 in
theorem both_and (s t : Nat → Nat) (hs : Word s) (ht : Word t) (w : World) : Calls Tryd.prog 37 #[.agg (row s), .agg (row t), .func (.func 39) #[] #[]] w fun e w' => e = .returned (.agg (row (andS s t))) ∧ Below w.heap.size w w' := by
  have r0 : Row w.heap.size s (((w.alloc (.cells (row s) 25)).alloc (.cells (row t) 25)).alloc (.cells (row zeroS) 25)) := ((Row.new s w).alloc _).alloc _
  have r1 : Row (w.heap.size + 1) t (((w.alloc (.cells (row s) 25)).alloc (.cells (row t) 25)).alloc (.cells (row zeroS) 25)) := by
    have := (Row.new t (w.alloc (.cells (row s) 25))).alloc (.cells (row zeroS) 25); rw [World.size_alloc] at this; exact this
  have r2 : Row (w.heap.size + 2) zeroS (((w.alloc (.cells (row s) 25)).alloc (.cells (row t) 25)).alloc (.cells (row zeroS) 25)) := by
    have := Row.new zeroS ((w.alloc (.cells (row s) 25)).alloc (.cells (row t) 25)); rw [World.size_alloc, World.size_alloc] at this; exact this
  have hB0 : Below w.heap.size w (((w.alloc (.cells (row s) 25)).alloc (.cells (row t) 25)).alloc (.cells (row zeroS) 25)) := by (repeat' (first | (with_reducible exact Below.refl _ _) | (with_reducible assumption) | (with_reducible refine Below.alloc ?_ ?_ _) | (with_reducible refine Below.drew ?_) | (with_reducible refine below_drewN ?_ _) | (with_reducible refine Below.setCell ?_ ?_ _) | (with_reducible refine Below.trans ?_ (Below.mono (by with_reducible assumption) ?_)) | (simp only [World.size_alloc, World.size_setCell, World.heap_drewN, World.size_drew]; omega) | omega | (simp; omega) | (simp; done)))
  rw [← mix_zero (andS s t) s] at r0
  go_enter Tryd.func37, Tryd.ntmps37
  go_wp2_with fail
  go_loopw [8] (fun v wr => ∃ k : Nat, k ≤ 16 ∧ v = .int .i64 k ∧ Row w.heap.size (mix (andS s t) s k) wr ∧ Row (w.heap.size + 1) t wr ∧ Row (w.heap.size + 2) zeroS wr ∧ Below w.heap.size w wr) (fun v _ => 16 - (intOf v).toNat)
  case atStart => exact ⟨0, by omega, rfl, r0, r1, r2, hB0⟩
  case round =>
    clear r0 r1 r2 hB0
    obtain ⟨k, hk, rfl, r0, r1, r2, hB⟩ := hrel
    by_cases hlt : k < 16
    · have q0 := r0.cell hlt
      rw [mix_at] at q0
      have q1 := r1.cell hlt
      have f0 := r0.free k
      have hset := r0.set (mix (andS s t) s (k + 1)) hlt (mix_next _ _ _) (fun j hj => mix_other _ _ hj)
      have r1' := r1.other ⟨w.heap.size, k, none⟩ (.int .u64 (andS s t k : Int)) (by simp)
      have r2' := r2.other ⟨w.heap.size, k, none⟩ (.int .u64 (andS s t k : Int)) (by simp)
      have hB' := hB.setCell (p := ⟨w.heap.size, k, none⟩) (by simp) (.int .u64 (andS s t k : Int))
      have hsk := hs k
      have htk := ht k
      have hz : (0 : Int) ≤ (k : Int) := by omega
      have hz16 : (k : Int) < 16 := by omega
      clear r0 r1 r2 hB
      go_wp2_with fail
      go_region_with (go_at_call 39; refine (andC (s k) (t k) hsk htk _).mono ?_; rintro e w1 ⟨rfl, rfl⟩)
      all_goals
        go_wp2_with fail
        go_roundw
        case rel => exact ⟨k + 1, by omega, by go_num, hset, r1', r2', below_drewN hB' _⟩
        case measure => simp [intOf]; omega
    · obtain rfl : k = 16 := by omega
      go_wp2_with (first | (refine ld _ rfl rfl _ rfl _ r0 ?_) | (refine st _ _ rfl rfl _ rfl _ rfl _ r2 ?_; intro w2 hr hu))
      rw [show row (andS s t) = row (mix (andS s t) s 16) from (mix_16 _ _).symm]
      refine bodyPost_ret (v := .agg (row (mix (andS s t) s 16))) (results_cell_row rfl _ _ _ _ _ _ _ rfl hr Tryd.underlying25 rfl info25) rfl ?_
      exact ⟨rfl, hu.below hB (by omega)⟩
theorem andSetC (s t : Nat → Nat) (hs : Word s) (ht : Word t) (w : World) : Calls Tryd.prog 22 #[.agg (row s), .agg (row t)] w fun e w' => e = .returned (.agg (row (andS s t))) ∧ Below w.heap.size w w' := by
  have r0 : Row w.heap.size s (((w.alloc (.cells (row s) 25)).alloc (.cells (row t) 25)).alloc (.cells (row zeroS) 25)) := ((Row.new s w).alloc _).alloc _
  have r1 : Row (w.heap.size + 1) t (((w.alloc (.cells (row s) 25)).alloc (.cells (row t) 25)).alloc (.cells (row zeroS) 25)) := by
    have := (Row.new t (w.alloc (.cells (row s) 25))).alloc (.cells (row zeroS) 25); rw [World.size_alloc] at this; exact this
  have r2 : Row (w.heap.size + 2) zeroS (((w.alloc (.cells (row s) 25)).alloc (.cells (row t) 25)).alloc (.cells (row zeroS) 25)) := by
    have := Row.new zeroS ((w.alloc (.cells (row s) 25)).alloc (.cells (row t) 25)); rw [World.size_alloc, World.size_alloc] at this; exact this
  have hB0 : Below w.heap.size w (((w.alloc (.cells (row s) 25)).alloc (.cells (row t) 25)).alloc (.cells (row zeroS) 25)) := by (repeat' (first | (with_reducible exact Below.refl _ _) | (with_reducible assumption) | (with_reducible refine Below.alloc ?_ ?_ _) | (with_reducible refine Below.drew ?_) | (with_reducible refine below_drewN ?_ _) | (with_reducible refine Below.setCell ?_ ?_ _) | (with_reducible refine Below.trans ?_ (Below.mono (by with_reducible assumption) ?_)) | (simp only [World.size_alloc, World.size_setCell, World.heap_drewN, World.size_drew]; omega) | omega | (simp; omega) | (simp; done)))
  go_enter Tryd.func22, Tryd.ntmps22
  go_wp2_with (first | (refine ld _ rfl rfl _ rfl _ r0 ?_) | (refine ld _ rfl rfl _ rfl _ r1 ?_) | fail)
  refine (both_and s t hs ht _).mono ?_
  rintro e w1 ⟨rfl, hb⟩
  have h2 : Row (w.heap.size + 2) zeroS w1 := r2.on hb
  have hB := hB0.trans (hb.mono hB0.size)
  clear r0 r1 r2 hB0 hb
  go_wp2_with (refine st _ _ rfl rfl _ rfl _ rfl _ h2 ?_; intro w2 hr hu)
  refine bodyPost_ret (v := .agg (row (andS s t))) (results_cell_row rfl _ _ _ _ _ _ _ rfl hr Tryd.underlying25 rfl info25) rfl ?_
  exact ⟨rfl, hu.below hB (by omega)⟩
set_option maxHeartbeats 400000 in
theorem both_less (s t : Nat → Nat) (hs : Word s) (ht : Word t) (w : World) : Calls Tryd.prog 37 #[.agg (row s), .agg (row t), .func (.func 38) #[] #[]] w fun e w' => e = .returned (.agg (row (lessS s t))) ∧ Below w.heap.size w w' := by
  have r0 : Row w.heap.size s (((w.alloc (.cells (row s) 25)).alloc (.cells (row t) 25)).alloc (.cells (row zeroS) 25)) := ((Row.new s w).alloc _).alloc _
  have r1 : Row (w.heap.size + 1) t (((w.alloc (.cells (row s) 25)).alloc (.cells (row t) 25)).alloc (.cells (row zeroS) 25)) := by
    have := (Row.new t (w.alloc (.cells (row s) 25))).alloc (.cells (row zeroS) 25); rw [World.size_alloc] at this; exact this
  have r2 : Row (w.heap.size + 2) zeroS (((w.alloc (.cells (row s) 25)).alloc (.cells (row t) 25)).alloc (.cells (row zeroS) 25)) := by
    have := Row.new zeroS ((w.alloc (.cells (row s) 25)).alloc (.cells (row t) 25)); rw [World.size_alloc, World.size_alloc] at this; exact this
  have hB0 : Below w.heap.size w (((w.alloc (.cells (row s) 25)).alloc (.cells (row t) 25)).alloc (.cells (row zeroS) 25)) := by (repeat' (first | (with_reducible exact Below.refl _ _) | (with_reducible assumption) | (with_reducible refine Below.alloc ?_ ?_ _) | (with_reducible refine Below.drew ?_) | (with_reducible refine below_drewN ?_ _) | (with_reducible refine Below.setCell ?_ ?_ _) | (with_reducible refine Below.trans ?_ (Below.mono (by with_reducible assumption) ?_)) | (simp only [World.size_alloc, World.size_setCell, World.heap_drewN, World.size_drew]; omega) | omega | (simp; omega) | (simp; done)))
  rw [← mix_zero (lessS s t) s] at r0
  go_enter Tryd.func37, Tryd.ntmps37
  go_wp2_with fail
  go_loopw [8] (fun v wr => ∃ k : Nat, k ≤ 16 ∧ v = .int .i64 k ∧ Row w.heap.size (mix (lessS s t) s k) wr ∧ Row (w.heap.size + 1) t wr ∧ Row (w.heap.size + 2) zeroS wr ∧ Below w.heap.size w wr) (fun v _ => 16 - (intOf v).toNat)
  case atStart => exact ⟨0, by omega, rfl, r0, r1, r2, hB0⟩
  case round =>
    clear r0 r1 r2 hB0
    obtain ⟨k, hk, rfl, r0, r1, r2, hB⟩ := hrel
    by_cases hlt : k < 16
    · have q0 := r0.cell hlt
      rw [mix_at] at q0
      have q1 := r1.cell hlt
      have f0 := r0.free k
      have hset := r0.set (mix (lessS s t) s (k + 1)) hlt (mix_next _ _ _) (fun j hj => mix_other _ _ hj)
      have r1' := r1.other ⟨w.heap.size, k, none⟩ (.int .u64 (lessS s t k : Int)) (by simp)
      have r2' := r2.other ⟨w.heap.size, k, none⟩ (.int .u64 (lessS s t k : Int)) (by simp)
      have hB' := hB.setCell (p := ⟨w.heap.size, k, none⟩) (by simp) (.int .u64 (lessS s t k : Int))
      have hsk := hs k
      have htk := ht k
      have hz : (0 : Int) ≤ (k : Int) := by omega
      have hz16 : (k : Int) < 16 := by omega
      clear r0 r1 r2 hB
      go_wp2_with fail
      go_region_with (go_at_call 38; refine (lessC (s k) (t k) hsk htk _).mono ?_; rintro e w1 ⟨rfl, rfl⟩)
      all_goals
        go_wp2_with fail
        go_roundw
        case rel => exact ⟨k + 1, by omega, by go_num, hset, r1', r2', below_drewN hB' _⟩
        case measure => simp [intOf]; omega
    · obtain rfl : k = 16 := by omega
      go_wp2_with (first | (refine ld _ rfl rfl _ rfl _ r0 ?_) | (refine st _ _ rfl rfl _ rfl _ rfl _ r2 ?_; intro w2 hr hu))
      rw [show row (lessS s t) = row (mix (lessS s t) s 16) from (mix_16 _ _).symm]
      refine bodyPost_ret (v := .agg (row (mix (lessS s t) s 16))) (results_cell_row rfl _ _ _ _ _ _ _ rfl hr Tryd.underlying25 rfl info25) rfl ?_
      exact ⟨rfl, hu.below hB (by omega)⟩
theorem lessSetC (s t : Nat → Nat) (hs : Word s) (ht : Word t) (w : World) : Calls Tryd.prog 21 #[.agg (row s), .agg (row t)] w fun e w' => e = .returned (.agg (row (lessS s t))) ∧ Below w.heap.size w w' := by
  have r0 : Row w.heap.size s (((w.alloc (.cells (row s) 25)).alloc (.cells (row t) 25)).alloc (.cells (row zeroS) 25)) := ((Row.new s w).alloc _).alloc _
  have r1 : Row (w.heap.size + 1) t (((w.alloc (.cells (row s) 25)).alloc (.cells (row t) 25)).alloc (.cells (row zeroS) 25)) := by
    have := (Row.new t (w.alloc (.cells (row s) 25))).alloc (.cells (row zeroS) 25); rw [World.size_alloc] at this; exact this
  have r2 : Row (w.heap.size + 2) zeroS (((w.alloc (.cells (row s) 25)).alloc (.cells (row t) 25)).alloc (.cells (row zeroS) 25)) := by
    have := Row.new zeroS ((w.alloc (.cells (row s) 25)).alloc (.cells (row t) 25)); rw [World.size_alloc, World.size_alloc] at this; exact this
  have hB0 : Below w.heap.size w (((w.alloc (.cells (row s) 25)).alloc (.cells (row t) 25)).alloc (.cells (row zeroS) 25)) := by (repeat' (first | (with_reducible exact Below.refl _ _) | (with_reducible assumption) | (with_reducible refine Below.alloc ?_ ?_ _) | (with_reducible refine Below.drew ?_) | (with_reducible refine below_drewN ?_ _) | (with_reducible refine Below.setCell ?_ ?_ _) | (with_reducible refine Below.trans ?_ (Below.mono (by with_reducible assumption) ?_)) | (simp only [World.size_alloc, World.size_setCell, World.heap_drewN, World.size_drew]; omega) | omega | (simp; omega) | (simp; done)))
  go_enter Tryd.func21, Tryd.ntmps21
  go_wp2_with (first | (refine ld _ rfl rfl _ rfl _ r0 ?_) | (refine ld _ rfl rfl _ rfl _ r1 ?_) | fail)
  refine (both_less s t hs ht _).mono ?_
  rintro e w1 ⟨rfl, hb⟩
  have h2 : Row (w.heap.size + 2) zeroS w1 := r2.on hb
  have hB := hB0.trans (hb.mono hB0.size)
  clear r0 r1 r2 hB0 hb
  go_wp2_with (refine st _ _ rfl rfl _ rfl _ rfl _ h2 ?_; intro w2 hr hu)
  refine bodyPost_ret (v := .agg (row (lessS s t))) (results_cell_row rfl _ _ _ _ _ _ _ rfl hr Tryd.underlying25 rfl info25) rfl ?_
  exact ⟨rfl, hu.below hB (by omega)⟩
end Go.Proofs.YtpgkikondihplaaDoor.Be
