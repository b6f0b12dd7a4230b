/- Package bits: With, Without as contracts. Condition: each word is a word. -/
import Derived.Test.YtpgkikondihplaaDoorBc
namespace Go.Proofs.YtpgkikondihplaaDoor.Bd
open Go.RowKit Go.Proofs.YtpgkikondihplaaDoor.Ba Go.Proofs.YtpgkikondihplaaDoor.Bm Go.Proofs.YtpgkikondihplaaDoor.Bb Go.Proofs.YtpgkikondihplaaDoor.Bc
set_option linter.unusedVariables false
set_option linter.unusedSimpArgs false
set_option maxRecDepth 100000
theorem withoutNo (s : Nat → Nat) (n : Int) (h : n < 0 ∨ 1024 ≤ n) (w : World) : Calls Tryd.prog 17 #[.agg (row s), .int .i64 n] w fun e w' => e = .returned (.agg (row s)) ∧ Below w.heap.size w w' := by
  have hY : Row w.heap.size s ((w.alloc (.cells (row s) 25)).alloc (.cells (row zeroS) 25)) := (Row.new s w).alloc _
  have hX : Row (w.heap.size + 1) zeroS ((w.alloc (.cells (row s) 25)).alloc (.cells (row zeroS) 25)) := by
    have := Row.new zeroS (w.alloc (.cells (row s) 25)); rw [World.size_alloc] at this; exact this
  have hB0 : Below w.heap.size w ((w.alloc (.cells (row s) 25)).alloc (.cells (row zeroS) 25)) := by (repeat' (first | (with_reducible exact Below.refl _ _) | (with_reducible assumption) | (with_reducible refine Below.alloc ?_ ?_ _) | (with_reducible refine Below.drew ?_) | (with_reducible refine below_drewN ?_ _) | (with_reducible refine Below.setCell ?_ ?_ _) | (with_reducible refine Below.trans ?_ (Below.mono (by with_reducible assumption) ?_)) | (simp only [World.size_alloc, World.size_setCell, World.heap_drewN, World.size_drew]; omega) | omega | (simp; omega) | (simp; done)))
  go_enter Tryd.func17, Tryd.ntmps17
  go_wp2_with fail
  refine (bitNo n h _).mono ?_
  rintro e w1 ⟨rfl, hb⟩
  have h1 : Row w.heap.size s w1 := hY.on hb
  have h2 : Row (w.heap.size + 1) zeroS w1 := hX.on hb
  have hB := hB0.trans (hb.mono hB0.size)
  clear hX hY hB0
  go_wp2_with (first | (refine ld _ rfl rfl _ rfl _ h1 ?_) | (refine st _ _ rfl rfl _ rfl _ rfl _ h2 ?_; intro w2 hr hu))
  refine bodyPost_ret (v := .agg (row s)) (results_cell_row rfl _ _ _ _ _ _ _ rfl hr Tryd.underlying25 rfl info25) rfl ?_
  exact ⟨rfl, hu.below hB (by omega)⟩
theorem withYes (s : Nat → Nat) (hs : Word s) (n : Nat) (h : n < 1024) (w : World) : Calls Tryd.prog 16 #[.agg (row s), .int .i64 (n : Int)] w fun e w' => e = .returned (.agg (row (withS s n))) ∧ Below w.heap.size w w' := by
  have hY : Row w.heap.size s ((w.alloc (.cells (row s) 25)).alloc (.cells (row zeroS) 25)) := (Row.new s w).alloc _
  have hX : Row (w.heap.size + 1) zeroS ((w.alloc (.cells (row s) 25)).alloc (.cells (row zeroS) 25)) := by
    have := Row.new zeroS (w.alloc (.cells (row s) 25)); rw [World.size_alloc] at this; exact this
  have hB0 : Below w.heap.size w ((w.alloc (.cells (row s) 25)).alloc (.cells (row zeroS) 25)) := by (repeat' (first | (with_reducible exact Below.refl _ _) | (with_reducible assumption) | (with_reducible refine Below.alloc ?_ ?_ _) | (with_reducible refine Below.drew ?_) | (with_reducible refine below_drewN ?_ _) | (with_reducible refine Below.setCell ?_ ?_ _) | (with_reducible refine Below.trans ?_ (Below.mono (by with_reducible assumption) ?_)) | (simp only [World.size_alloc, World.size_setCell, World.heap_drewN, World.size_drew]; omega) | omega | (simp; omega) | (simp; done)))
  have hbit := bitYes n h ((w.alloc (.cells (row s) 25)).alloc (.cells (row zeroS) 25))
  have hi : n / 64 < 16 := by omega
  have e1 := u64_or_nat (s (n / 64)) (2 ^ (n % 64)) (hs _) (pow64 n)
  obtain ⟨t, ht⟩ : ∃ t, t = withS s n := ⟨_, rfl⟩
  have hx : t (n / 64) = s (n / 64) ||| 2 ^ (n % 64) := by rw [ht]; unfold withS; rw [if_pos rfl]
  have ho : ∀ j, j ≠ n / 64 → t j = s j := fun j hj => by rw [ht]; unfold withS; rw [if_neg hj]
  rw [← ht]
  rw [← hx] at e1
  obtain ⟨i, hie⟩ : ∃ i, i = n / 64 := ⟨_, rfl⟩
  rw [← hie] at hbit e1 hi ho
  have hset : ∀ {w1 : World}, Row w.heap.size s w1 → Row w.heap.size t (w1.setCell ⟨w.heap.size, i, none⟩ (.int .u64 (t i : Int))) := fun h => h.set t hi rfl ho
  generalize 2 ^ (n % 64) = m at *
  clear hie hx ho ht
  go_enter Tryd.func16, Tryd.ntmps16
  go_wp2_with fail
  refine hbit.mono ?_
  rintro e w1 ⟨rfl, hb⟩
  have h1 : Row w.heap.size s w1 := hY.on hb
  have h2 : Row (w.heap.size + 1) zeroS w1 := hX.on hb
  have hB := hB0.trans (hb.mono hB0.size)
  have q := h1.cell hi
  have f := h1.free i
  have h3 := hset h1
  have h4 : Row (w.heap.size + 1) zeroS (w1.setCell ⟨w.heap.size, i, none⟩ (.int .u64 (t i : Int))) := h2.other _ _ (by simp)
  have hB3 : Below w.heap.size w (w1.setCell ⟨w.heap.size, i, none⟩ (.int .u64 (t i : Int))) := hB.setCell (by simp) _
  clear hX hY hB0 hset h1 h2 hb hB hbit
  generalize hv : (Value.int IntKind.u64 (t i : Int)) = v at h3 h4 hB3
  generalize hW : w1.setCell ⟨w.heap.size, i, none⟩ v = W at h3 h4 hB3
  have HW := Lib.hid hW
  have HV := Lib.hid hv
  clear hW hv
  go_wp2_with (first | (refine ld _ rfl rfl _ rfl _ (HV.out ▸ HW.out ▸ h3) ?_) | (refine st _ _ rfl rfl _ rfl _ rfl _ (HV.out ▸ HW.out ▸ h4) ?_; intro w2 hr hu))
  rw [HV.out, HW.out] at hu
  refine bodyPost_ret (v := .agg (row t)) (results_cell_row rfl _ _ _ _ _ _ _ rfl hr Tryd.underlying25 rfl info25) rfl ?_
  exact ⟨rfl, hu.below hB3 (by omega)⟩
theorem withoutYes (s : Nat → Nat) (hs : Word s) (n : Nat) (h : n < 1024) (w : World) : Calls Tryd.prog 17 #[.agg (row s), .int .i64 (n : Int)] w fun e w' => e = .returned (.agg (row (withoutS s n))) ∧ Below w.heap.size w w' := by
  have hY : Row w.heap.size s ((w.alloc (.cells (row s) 25)).alloc (.cells (row zeroS) 25)) := (Row.new s w).alloc _
  have hX : Row (w.heap.size + 1) zeroS ((w.alloc (.cells (row s) 25)).alloc (.cells (row zeroS) 25)) := by
    have := Row.new zeroS (w.alloc (.cells (row s) 25)); rw [World.size_alloc] at this; exact this
  have hB0 : Below w.heap.size w ((w.alloc (.cells (row s) 25)).alloc (.cells (row zeroS) 25)) := by (repeat' (first | (with_reducible exact Below.refl _ _) | (with_reducible assumption) | (with_reducible refine Below.alloc ?_ ?_ _) | (with_reducible refine Below.drew ?_) | (with_reducible refine below_drewN ?_ _) | (with_reducible refine Below.setCell ?_ ?_ _) | (with_reducible refine Below.trans ?_ (Below.mono (by with_reducible assumption) ?_)) | (simp only [World.size_alloc, World.size_setCell, World.heap_drewN, World.size_drew]; omega) | omega | (simp; omega) | (simp; done)))
  have hbit := bitYes n h ((w.alloc (.cells (row s) 25)).alloc (.cells (row zeroS) 25))
  have hi : n / 64 < 16 := by omega
  have e1 := u64_andNot_nat (s (n / 64)) (2 ^ (n % 64)) (hs _) (pow64 n)
  obtain ⟨t, ht⟩ : ∃ t, t = withoutS s n := ⟨_, rfl⟩
  have hx : t (n / 64) = s (n / 64) &&& (18446744073709551615 - 2 ^ (n % 64)) := by rw [ht]; unfold withoutS; rw [if_pos rfl]
  have ho : ∀ j, j ≠ n / 64 → t j = s j := fun j hj => by rw [ht]; unfold withoutS; rw [if_neg hj]
  rw [← ht]
  rw [← hx] at e1
  obtain ⟨i, hie⟩ : ∃ i, i = n / 64 := ⟨_, rfl⟩
  rw [← hie] at hbit e1 hi ho
  have hset : ∀ {w1 : World}, Row w.heap.size s w1 → Row w.heap.size t (w1.setCell ⟨w.heap.size, i, none⟩ (.int .u64 (t i : Int))) := fun h => h.set t hi rfl ho
  generalize 2 ^ (n % 64) = m at *
  clear hie hx ho ht
  go_enter Tryd.func17, Tryd.ntmps17
  go_wp2_with fail
  refine hbit.mono ?_
  rintro e w1 ⟨rfl, hb⟩
  have h1 : Row w.heap.size s w1 := hY.on hb
  have h2 : Row (w.heap.size + 1) zeroS w1 := hX.on hb
  have hB := hB0.trans (hb.mono hB0.size)
  have q := h1.cell hi
  have f := h1.free i
  have h3 := hset h1
  have h4 : Row (w.heap.size + 1) zeroS (w1.setCell ⟨w.heap.size, i, none⟩ (.int .u64 (t i : Int))) := h2.other _ _ (by simp)
  have hB3 : Below w.heap.size w (w1.setCell ⟨w.heap.size, i, none⟩ (.int .u64 (t i : Int))) := hB.setCell (by simp) _
  clear hX hY hB0 hset h1 h2 hb hB hbit
  generalize hv : (Value.int IntKind.u64 (t i : Int)) = v at h3 h4 hB3
  generalize hW : w1.setCell ⟨w.heap.size, i, none⟩ v = W at h3 h4 hB3
  have HW := Lib.hid hW
  have HV := Lib.hid hv
  clear hW hv
  go_wp2_with (first | (refine ld _ rfl rfl _ rfl _ (HV.out ▸ HW.out ▸ h3) ?_) | (refine st _ _ rfl rfl _ rfl _ rfl _ (HV.out ▸ HW.out ▸ h4) ?_; intro w2 hr hu))
  rw [HV.out, HW.out] at hu
  refine bodyPost_ret (v := .agg (row t)) (results_cell_row rfl _ _ _ _ _ _ _ rfl hr Tryd.underlying25 rfl info25) rfl ?_
  exact ⟨rfl, hu.below hB3 (by omega)⟩
/-- With, at whatever number. -/
def withI (s : Nat → Nat) (n : Int) : Nat → Nat := if n < 0 ∨ 1024 ≤ n then s else withS s n.toNat
theorem withI_word {s : Nat → Nat} (h : Word s) (n : Int) : Word (withI s n) := by
  unfold withI; split
  · exact h
  · exact with_word h _
theorem withC (s : Nat → Nat) (hs : Word s) (n : Int) (w : World) : Calls Tryd.prog 16 #[.agg (row s), .int .i64 n] w fun e w' => e = .returned (.agg (row (withI s n))) ∧ Below w.heap.size w w' := by
  rcases nat_or_far n with ⟨k, rfl, hk⟩ | h
  · rw [show withI s (k : Int) = withS s k by unfold withI; rw [if_neg (by omega)]; rfl]
    exact withYes s hs k hk w
  · rw [show withI s n = s by unfold withI; rw [if_pos h]]
    exact withNo s n h w
/-- Without, at whatever number. -/
def withoutI (s : Nat → Nat) (n : Int) : Nat → Nat := if n < 0 ∨ 1024 ≤ n then s else withoutS s n.toNat
theorem withoutI_word {s : Nat → Nat} (h : Word s) (n : Int) : Word (withoutI s n) := by
  unfold withoutI; split
  · exact h
  · exact without_word h _
theorem withoutC (s : Nat → Nat) (hs : Word s) (n : Int) (w : World) : Calls Tryd.prog 17 #[.agg (row s), .int .i64 n] w fun e w' => e = .returned (.agg (row (withoutI s n))) ∧ Below w.heap.size w w' := by
  rcases nat_or_far n with ⟨k, rfl, hk⟩ | h
  · rw [show withoutI s (k : Int) = withoutS s k by unfold withoutI; rw [if_neg (by omega)]; rfl]
    exact withoutYes s hs k hk w
  · rw [show withoutI s n = s by unfold withoutI; rw [if_pos h]]
    exact withoutNo s n h w
end Go.Proofs.YtpgkikondihplaaDoor.Bd
