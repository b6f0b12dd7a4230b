/- Package bits: Has, With, Without as contracts. Condition: each word is a word. -/
import Derived.Test.YtpgkikondihplaaDoorBb
namespace Go.Proofs.YtpgkikondihplaaDoor.Bc
open Go.RowKit Go.Proofs.YtpgkikondihplaaDoor.Ba Go.Proofs.YtpgkikondihplaaDoor.Bm Go.Proofs.YtpgkikondihplaaDoor.Bb
set_option linter.unusedVariables false
set_option linter.unusedSimpArgs false
set_option maxRecDepth 100000
theorem and_no {a i : Nat} (h : a.testBit i = false) : a &&& 2 ^ i = 0 := by
  apply Nat.eq_of_testBit_eq
  intro j
  rw [Nat.testBit_and, Nat.testBit_two_pow, Nat.zero_testBit]
  by_cases hj : i = j
  · subst hj; simp [h]
  · simp [hj]
theorem and_yes {a i : Nat} (h : a.testBit i = true) : a &&& 2 ^ i = 2 ^ i := by
  apply Nat.eq_of_testBit_eq
  intro j
  rw [Nat.testBit_and, Nat.testBit_two_pow]
  by_cases hj : i = j
  · subst hj; simp [h]
  · simp [hj]
/-- Whether a whole number is in a set. -/
def hasI (s : Nat → Nat) (n : Int) : Bool := decide (0 ≤ n) && has s n.toNat
theorem hasI_nat (s : Nat → Nat) (n : Nat) : hasI s (n : Int) = has s n := by unfold hasI; simp
theorem hasI_no (s : Nat → Nat) {n : Int} (h : n < 0 ∨ 1024 ≤ n) : hasI s n = false := by
  unfold hasI has
  rcases h with h | h
  · have : ¬ 0 ≤ n := by omega
    simp [this]
  · have : ¬ n.toNat < 1024 := by omega
    simp [this]
theorem hasYes (s : Nat → Nat) (hs : Word s) (n : Nat) (h : n < 1024) (w : World) : Calls Tryd.prog 15 #[.agg (row s), .int .i64 (n : Int)] w fun e w' => e = .returned (.bool ((s (n / 64)).testBit (n % 64))) ∧ Below w.heap.size w w' := by
  have h0 := Row.new s w
  have hB0 : Below w.heap.size w (w.alloc (.cells (row s) 25)) := (Below.refl _ _).alloc (Nat.le_refl _) _
  have hbit := bitYes n h (w.alloc (.cells (row s) 25))
  have hi : n / 64 < 16 := by omega
  have e1 := u64_and_nat (s (n / 64)) (2 ^ (n % 64)) (hs _) (pow64 n)
  have hp : 2 ^ (n % 64) ≠ 0 := by have := Nat.two_pow_pos (n % 64); omega
  obtain ⟨i, hie⟩ : ∃ i, i = n / 64 := ⟨_, rfl⟩
  rw [← hie] at hbit e1 hi ⊢
  have key : (((s i &&& 2 ^ (n % 64) : Nat) : Int) != 0) = (s i).testBit (n % 64) := by
    cases hb2 : (s i).testBit (n % 64) with
    | false => rw [and_no hb2]; rfl
    | true =>
      rw [and_yes hb2]
      generalize 2 ^ (n % 64) = m at hp ⊢
      simp
      exact hp
  rw [← e1] at key
  generalize 2 ^ (n % 64) = m at *
  generalize (s i).testBit (n % 64) = r at *
  clear e1 hp hie
  go_enter Tryd.func15, Tryd.ntmps15
  go_wp2_with fail
  refine hbit.mono ?_
  rintro e w1 ⟨rfl, hb⟩
  have h1 := h0.on hb
  have q := h1.cell hi
  have hB := hB0.trans (hb.mono hB0.size)
  clear h1
  go_wp2_with fail
  go_ret
  exact ⟨by simp, hB⟩
theorem hasNo (s : Nat → Nat) (n : Int) (h : n < 0 ∨ 1024 ≤ n) (w : World) : Calls Tryd.prog 15 #[.agg (row s), .int .i64 n] w fun e w' => e = .returned (.bool false) ∧ Below w.heap.size w w' := by
  have hB0 : Below w.heap.size w (w.alloc (.cells (row s) 25)) := (Below.refl _ _).alloc (Nat.le_refl _) _
  have hbit := bitNo n h (w.alloc (.cells (row s) 25))
  clear h
  go_enter Tryd.func15, Tryd.ntmps15
  go_wp2_with fail
  refine hbit.mono ?_
  rintro e w1 ⟨rfl, hb⟩
  have hB := hB0.trans (hb.mono hB0.size)
  go_wp2_with fail
  go_ret
  exact ⟨rfl, hB⟩
theorem nat_or_far (n : Int) : (∃ k : Nat, n = k ∧ k < 1024) ∨ (n < 0 ∨ 1024 ≤ n) := by
  by_cases h : n < 0 ∨ 1024 ≤ n
  · exact Or.inr h
  · exact Or.inl ⟨n.toNat, by omega, by omega⟩
/-- Has, at whatever number. -/
theorem hasC (s : Nat → Nat) (hs : Word s) (n : Int) (w : World) : Calls Tryd.prog 15 #[.agg (row s), .int .i64 n] w fun e w' => e = .returned (.bool (hasI s n)) ∧ Below w.heap.size w w' := by
  rcases nat_or_far n with ⟨k, rfl, hk⟩ | h
  · rw [hasI_nat, show has s k = (s (k / 64)).testBit (k % 64) by unfold has; simp [hk]]
    exact hasYes s hs k hk w
  · rw [hasI_no s h]
    exact hasNo s n h w
theorem withNo (s : Nat → Nat) (n : Int) (h : n < 0 ∨ 1024 ≤ n) (w : World) : Calls Tryd.prog 16 #[.agg (row s), .int .i64 n] w fun e w' => e = .returned (.agg (row s)) ∧ Below w.heap.size w w' := by
  have hY : Row w.heap.size s ((w.alloc (.cells (row s) 25)).alloc (.cells (row zeroS) 25)) := (Row.new s w).alloc _
  have hX : Row (w.heap.size + 1) zeroS ((w.alloc (.cells (row s) 25)).alloc (.cells (row zeroS) 25)) := by
    have := Row.new zeroS (w.alloc (.cells (row s) 25)); rw [World.size_alloc] at this; exact this
  have hB0 : Below w.heap.size w ((w.alloc (.cells (row s) 25)).alloc (.cells (row zeroS) 25)) := by (repeat' (first | (with_reducible exact Below.refl _ _) | (with_reducible assumption) | (with_reducible refine Below.alloc ?_ ?_ _) | (with_reducible refine Below.drew ?_) | (with_reducible refine below_drewN ?_ _) | (with_reducible refine Below.setCell ?_ ?_ _) | (with_reducible refine Below.trans ?_ (Below.mono (by with_reducible assumption) ?_)) | (simp only [World.size_alloc, World.size_setCell, World.heap_drewN, World.size_drew]; omega) | omega | (simp; omega) | (simp; done)))
  go_enter Tryd.func16, Tryd.ntmps16
  go_wp2_with fail
  refine (bitNo n h _).mono ?_
  rintro e w1 ⟨rfl, hb⟩
  have h1 : Row w.heap.size s w1 := hY.on hb
  have h2 : Row (w.heap.size + 1) zeroS w1 := hX.on hb
  have hB := hB0.trans (hb.mono hB0.size)
  clear hX hY hB0
  go_wp2_with (first | (refine ld _ rfl rfl _ rfl _ h1 ?_) | (refine st _ _ rfl rfl _ rfl _ rfl _ h2 ?_; intro w2 hr hu))
  refine bodyPost_ret (v := .agg (row s)) (results_cell_row rfl _ _ _ _ _ _ _ rfl hr Tryd.underlying25 rfl info25) rfl ?_
  exact ⟨rfl, hu.below hB (by omega)⟩
end Go.Proofs.YtpgkikondihplaaDoor.Bc
