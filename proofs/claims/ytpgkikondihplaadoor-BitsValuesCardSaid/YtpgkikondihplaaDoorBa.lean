/- Package bits' small functions, as contracts. No condition. -/
import Derived.Test.YtpgkikondihplaaDoorProg
import Derived.WalkKit
import Derived.Below
import Derived.BigQuiet
import Derived.RegionTactic
import Derived.Laws.BitsAllLaws
import Derived.Laws.Shifts
import Derived.Lib.Hide
import Derived.Lib.QuietBelow
namespace Go.Proofs.YtpgkikondihplaaDoor.Ba
open Go.RowKit
set_option linter.unusedVariables false
set_option linter.unusedSimpArgs false
set_option maxRecDepth 100000
theorem below_drewN {B : Nat} {a w : World} (h : Below B a w) (n : Nat) : Below B a (w.drewN n) := h.trans ⟨rfl, rfl, rfl, Nat.le_refl _, fun _ _ => rfl⟩
theorem bitNo (n : Int) (h : n < 0 ∨ 1024 ≤ n) (w : World) : Calls Tryd.prog 36 #[.int .i64 n] w fun e w' => e = .returned (.tuple #[.int .i64 0, .int .u64 0, .bool false]) ∧ Below w.heap.size w w' := by
  by_cases h1 : n < 0
  · clear h
    go_enter Tryd.func36, Tryd.ntmps36
    go_wp2_with fail
    refine bodyPost_ret (v := .tuple #[.int .i64 0, .int .u64 0, .bool false]) (by simp [results, Tryd.results36, go_sem]) rfl ?_
    exact ⟨rfl, Below.refl _ _⟩
  · have h2 : 1024 ≤ n := by omega
    clear h
    go_enter Tryd.func36, Tryd.ntmps36
    go_wp2_with fail
    refine bodyPost_ret (v := .tuple #[.int .i64 0, .int .u64 0, .bool false]) (by simp [results, Tryd.results36, go_sem]) rfl ?_
    exact ⟨rfl, Below.refl _ _⟩
theorem bitYes (n : Nat) (h : n < 1024) (w : World) : Calls Tryd.prog 36 #[.int .i64 (n : Int)] w fun e w' => e = .returned (.tuple #[.int .i64 ((n / 64 : Nat) : Int), .int .u64 ((2 ^ (n % 64) : Nat) : Int), .bool true]) ∧ Below w.heap.size w w' := by
  have h1 : ¬ (n : Int) < 0 := by omega
  have h2 : ¬ (1024 : Int) ≤ n := by omega
  go_enter Tryd.func36, Tryd.ntmps36
  go_wp2_with fail
  go_quiet (fail)
  go_wp2_with fail
  have hw : IntKind.u64.wrap ((2 : Int) ^ (n % 64)) = ((2 ^ (n % 64) : Nat) : Int) := by
    have hp : 2 ^ (n % 64) < 18446744073709551616 := Nat.lt_of_lt_of_le (Nat.pow_lt_pow_right (by decide) (Nat.mod_lt n (by decide) : n % 64 < 64)) (by decide)
    have hc : ((2 ^ (n % 64) : Nat) : Int) = (2 : Int) ^ (n % 64) := by simp
    rw [← hc, IntKind.wrap_u64]
    generalize 2 ^ (n % 64) = x at *
    omega
  rw [hw]
  refine bodyPost_ret (v := .tuple #[.int .i64 ((n : Int) / 64), .int .u64 ((2 ^ (n % 64) : Nat) : Int), .bool true]) (by simp [results, Tryd.results36, go_sem]) rfl ?_
  exact ⟨by simp, below_drewN (Below.refl _ _) nq⟩
theorem orC (a b : Nat) (ha : a < 18446744073709551616) (hb : b < 18446744073709551616) (w : World) : Calls Tryd.prog 40 #[.int .u64 (a : Int), .int .u64 (b : Int)] w fun e w' => e = .returned (.int .u64 ((a ||| b : Nat) : Int)) ∧ w' = w := by
  go_enter Tryd.func40, Tryd.ntmps40
  go_wp2_with fail
  go_ret
  rw [u64_or_nat a b ha hb]; exact ⟨rfl, rfl⟩
theorem andC (a b : Nat) (ha : a < 18446744073709551616) (hb : b < 18446744073709551616) (w : World) : Calls Tryd.prog 39 #[.int .u64 (a : Int), .int .u64 (b : Int)] w fun e w' => e = .returned (.int .u64 ((a &&& b : Nat) : Int)) ∧ w' = w := by
  go_enter Tryd.func39, Tryd.ntmps39
  go_wp2_with fail
  go_ret
  rw [u64_and_nat a b ha hb]; exact ⟨rfl, rfl⟩
theorem lessC (a b : Nat) (ha : a < 18446744073709551616) (hb : b < 18446744073709551616) (w : World) : Calls Tryd.prog 38 #[.int .u64 (a : Int), .int .u64 (b : Int)] w fun e w' => e = .returned (.int .u64 ((a &&& (18446744073709551615 - b) : Nat) : Int)) ∧ w' = w := by
  go_enter Tryd.func38, Tryd.ntmps38
  go_wp2_with fail
  go_ret
  rw [u64_andNot_nat a b ha hb]; exact ⟨rfl, rfl⟩
end Go.Proofs.YtpgkikondihplaaDoor.Ba
