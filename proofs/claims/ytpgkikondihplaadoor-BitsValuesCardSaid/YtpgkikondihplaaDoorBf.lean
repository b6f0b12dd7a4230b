/- Package bits: Len, Below as contracts. Condition: each word is a word. -/
import Derived.Test.YtpgkikondihplaaDoorBt
import Derived.Test.YtpgkikondihplaaDoorBg
import Derived.Test.YtpgkikondihplaaDoorBe
namespace Go.Proofs.YtpgkikondihplaaDoor.Bf
open Go.RowKit Go.Proofs.YtpgkikondihplaaDoor.Ba Go.Proofs.YtpgkikondihplaaDoor.Bm Go.Proofs.YtpgkikondihplaaDoor.Bb Go.Proofs.YtpgkikondihplaaDoor.Bg Go.Proofs.YtpgkikondihplaaDoor.Bt Go.Proofs.YtpgkikondihplaaDoor.Be
set_option linter.unusedVariables false
set_option linter.unusedSimpArgs false
set_option maxRecDepth 100000
theorem pop_le (x : Nat) : pop x ≤ 64 := by
  have := List.countP_le_length (p := (x.testBit ·)) (l := List.range 64)
  rw [List.length_range] at this; exact this
theorem lenS_le (s : Nat → Nat) : ∀ k, lenS s k ≤ 64 * k
  | 0 => by simp [lenS]
  | k + 1 => by have := lenS_le s k; have := pop_le (s k); unfold lenS; omega
theorem lenC (s : Nat → Nat) (hs : Word s) (w : World) : Calls Tryd.prog 14 #[.agg (row s)] w fun e w' => e = .returned (.int .i64 ((lst s).length : Int)) ∧ Below w.heap.size w w' := by
  have r0 := Row.new s w
  have hB0 : Below w.heap.size w (w.alloc (.cells (row s) 25)) := by (repeat' (first | (with_reducible exact Below.refl _ _) | (with_reducible assumption) | (with_reducible refine Below.alloc ?_ ?_ _) | (with_reducible refine Below.drew ?_) | (with_reducible refine below_drewN ?_ _) | (with_reducible refine Below.setCell ?_ ?_ _) | (with_reducible refine Below.trans ?_ (Below.mono (by with_reducible assumption) ?_)) | (simp only [World.size_alloc, World.size_setCell, World.heap_drewN, World.size_drew]; omega) | omega | (simp; omega) | (simp; done)))
  rw [← lenS_16]
  go_enter Tryd.func14, Tryd.ntmps14
  go_wp2_with (refine ld _ rfl rfl _ rfl _ r0 ?_)
  clear r0
  go_loop [3, 7] (fun v i => ∃ k : Nat, k ≤ 16 ∧ i = .int .i64 k ∧ v = .int .i64 (lenS s k : Int)) (fun _ i => 16 - (intOf i).toNat)
  case atStart => exact ⟨0, by omega, rfl, rfl⟩
  case round =>
    obtain ⟨k, hk, rfl, rfl⟩ := hrel
    have hle := lenS_le s k
    have hpl := pop_le (s k)
    have hsk := hs k
    by_cases hlt : k < 16
    · have hz16 : (k : Int) < 16 := by omega
      have hnx : lenS s (k + 1) = lenS s k + pop (s k) := rfl
      have HN := Lib.hid hnx
      clear hnx
      go_wp2_with (first | (refine ix _ _ rfl rfl s rfl k rfl hlt ?_) | (go_at_call 35; refine (onesC _ hsk _).mono ?_; rintro e w1 ⟨rfl, rfl⟩))
      go_round
      case rel => exact ⟨k + 1, by omega, by go_num, by rw [HN.out]; go_num⟩
      case measure => simp [intOf]; omega
    · obtain rfl : k = 16 := by omega
      go_wp2_with fail
      go_ret
      exact ⟨rfl, hB0⟩
theorem below_key (n : Int) (k : Nat) (hk : k < 16) : IntKind.u64.wrap (IntKind.u64.wrap ((2 : Int) ^ ((if 64 < (if ((if 1024 < (if n < 0 then 0 else n) then 1024 else (if n < 0 then 0 else n)) - (k : Int) * 64) < 0 then 0 else ((if 1024 < (if n < 0 then 0 else n) then 1024 else (if n < 0 then 0 else n)) - (k : Int) * 64)) then 64 else (if ((if 1024 < (if n < 0 then 0 else n) then 1024 else (if n < 0 then 0 else n)) - (k : Int) * 64) < 0 then 0 else ((if 1024 < (if n < 0 then 0 else n) then 1024 else (if n < 0 then 0 else n)) - (k : Int) * 64))) : Int).toNat) - 1) = ((belowS (min n.toNat 1024) k : Nat) : Int) := by
  have he : ((if 64 < (if ((if 1024 < (if n < 0 then 0 else n) then 1024 else (if n < 0 then 0 else n)) - (k : Int) * 64) < 0 then 0 else ((if 1024 < (if n < 0 then 0 else n) then 1024 else (if n < 0 then 0 else n)) - (k : Int) * 64)) then 64 else (if ((if 1024 < (if n < 0 then 0 else n) then 1024 else (if n < 0 then 0 else n)) - (k : Int) * 64) < 0 then 0 else ((if 1024 < (if n < 0 then 0 else n) then 1024 else (if n < 0 then 0 else n)) - (k : Int) * 64))) : Int).toNat = min (min n.toNat 1024 - 64 * k) 64 := by
    repeat' split
    all_goals omega
  rw [he]
  unfold belowS
  have hle : min (min n.toNat 1024 - 64 * k) 64 ≤ 64 := Nat.min_le_right _ _
  generalize min (min n.toNat 1024 - 64 * k) 64 = e at hle ⊢
  have hc : (2 : Int) ^ e = ((2 ^ e : Nat) : Int) := by simp
  have hp : 2 ^ e ≤ 2 ^ 64 := Nat.pow_le_pow_right (by decide) hle
  have h0 : 0 < 2 ^ e := Nat.two_pow_pos e
  have e64 : (2 : Nat) ^ 64 = 18446744073709551616 := by decide
  rw [e64] at hp
  rw [hc, IntKind.wrap_u64, IntKind.wrap_u64]
  generalize 2 ^ e = x at hp h0 ⊢
  omega
set_option maxHeartbeats 400000 in
theorem belowC (n : Int) (w : World) : Calls Tryd.prog 13 #[.int .i64 n] w fun e w' => e = .returned (.agg (row (belowS (min n.toNat 1024)))) ∧ Below w.heap.size w w' := by
  obtain ⟨m, hm⟩ : ∃ m : Nat, m = min n.toNat 1024 := ⟨_, rfl⟩
  have key := fun k hk => below_key n k hk
  rw [← hm] at key ⊢
  have KEY := Lib.hid key
  clear key
  have r0 : Row w.heap.size zeroS ((w.alloc (.cells (row zeroS) 25)).alloc (.cells (row zeroS) 25)) := (Row.new zeroS w).alloc _
  have r1 : Row (w.heap.size + 1) zeroS ((w.alloc (.cells (row zeroS) 25)).alloc (.cells (row zeroS) 25)) := by
    have := Row.new zeroS (w.alloc (.cells (row zeroS) 25)); rw [World.size_alloc] at this; exact this
  have hB0 : Below w.heap.size w ((w.alloc (.cells (row zeroS) 25)).alloc (.cells (row zeroS) 25)) := by (repeat' (first | (with_reducible exact Below.refl _ _) | (with_reducible assumption) | (with_reducible refine Below.alloc ?_ ?_ _) | (with_reducible refine Below.drew ?_) | (with_reducible refine below_drewN ?_ _) | (with_reducible refine Below.setCell ?_ ?_ _) | (with_reducible refine Below.trans ?_ (Below.mono (by with_reducible assumption) ?_)) | (simp only [World.size_alloc, World.size_setCell, World.heap_drewN, World.size_drew]; omega) | omega | (simp; omega) | (simp; done)))
  rw [← mix_zero (belowS m) zeroS] at r1
  clear hm
  go_enter Tryd.func13, Tryd.ntmps13
  go_wp2_with fail
  go_loopw [6] (fun v wr => ∃ k : Nat, k ≤ 16 ∧ v = .int .i64 k ∧ Row w.heap.size zeroS wr ∧ Row (w.heap.size + 1) (mix (belowS m) zeroS k) wr ∧ Below w.heap.size w wr) (fun v _ => 16 - (intOf v).toNat)
  case atStart => exact ⟨0, by omega, rfl, r0, r1, hB0⟩
  case round =>
    clear r0 r1 hB0
    obtain ⟨k, hk, rfl, r0, r1, hB⟩ := hrel
    by_cases hlt : k < 16
    · have q1 := r1.cell hlt
      rw [mix_at] at q1
      have f1 := r1.free k
      have hset := r1.set (mix (belowS m) zeroS (k + 1)) hlt (mix_next _ _ _) (fun j hj => mix_other _ _ hj)
      have r0' := r0.other ⟨w.heap.size + 1, k, none⟩ (.int .u64 (belowS m k : Int)) (by simp)
      have hB' := hB.setCell (p := ⟨w.heap.size + 1, k, none⟩) (by simp) (.int .u64 (belowS m k : Int))
      have hz : (0 : Int) ≤ (k : Int) := by omega
      have hz16 : (k : Int) < 16 := by omega
      clear r0 r1 hB
      go_wp2_with fail
      rw [KEY.out k hlt]
      go_roundw
      case rel => exact ⟨k + 1, by omega, by go_num, r0', hset, hB'⟩
      case measure => simp [intOf]; omega
    · obtain rfl : k = 16 := by omega
      go_wp2_with (first | (refine ld _ rfl rfl _ rfl _ r1 ?_) | (refine st _ _ rfl rfl _ rfl _ rfl _ r0 ?_; intro w2 hr hu))
      rw [show row (belowS m) = row (mix (belowS m) zeroS 16) from (mix_16 _ _).symm]
      refine bodyPost_ret (v := .agg (row (mix (belowS m) zeroS 16))) (results_cell_row rfl _ _ _ _ _ _ _ rfl hr Tryd.underlying25 rfl info25) rfl ?_
      exact ⟨rfl, hu.below hB (by omega)⟩
end Go.Proofs.YtpgkikondihplaaDoor.Bf
