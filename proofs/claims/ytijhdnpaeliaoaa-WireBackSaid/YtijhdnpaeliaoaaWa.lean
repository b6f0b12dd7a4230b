/- 'put' of package wire and 'bytes' of the document's reader, as contracts. Condition: the text is no longer than 2^40 bytes. -/
import Derived.Test.YtijhdnpaeliaoaaProg
import Derived.Test.YtijhdnpaeliaoaaWm
import Derived.Test.YtijhdnpaeliaoaaWb
import Derived.Lib.Hide
import Derived.KernelRfl
import Derived.Deep.QuietTactic
import Derived.BigQuiet
import Derived.WalkLawsBesides
import Derived.Handy
import Derived.BigRegion
import Derived.LoopTactic
import Derived.Outline
import Derived.Laws.BitsAllLaws
import Derived.Deep.LoopGhost
import Derived.Deep.RegionWith
namespace Go.Proofs.Ytijhdnpaeliaoaa.Wa
open Go.RowKit Go.Proofs.Ytijhdnpaeliaoaa.Wm Go.Proofs.Ytijhdnpaeliaoaa.Wb
set_option linter.unusedVariables false
set_option linter.unusedSimpArgs false
set_option maxRecDepth 100000
theorem bcell {W w1 : World} (hb : Below W.heap.size W w1) : (∀ b o, b < W.heap.size → w1.cell? ⟨b, o, none⟩ = W.cell? ⟨b, o, none⟩) ∧ (∀ b o, b < W.heap.size → w1.frozen? ⟨b, o, none⟩ = W.frozen? ⟨b, o, none⟩) :=
  ⟨fun b o h => hb.cell (p := ⟨b, o, none⟩) h, fun b o h => hb.frozen (p := ⟨b, o, none⟩) h⟩
theorem info_u8 : (Try.prog.info? 5).map (fun i => (i.zero, i.size, i.bytes)) = some (some (.int .u8 0), 1, 1) := by kernel_rfl
set_option maxHeartbeats 800000 in
theorem putC (s : ByteArray) (n : Nat) (hs : s.size ≤ 1099511627776) (hn : n < 18446744073709551616) (w : World) : Calls Try.prog 34 #[.string s, .int .u64 n] w fun e w' => e = .returned (.string (put s n)) ∧ Below w.heap.size w w' := by
  obtain ⟨i0, hi, hz0, hz1, hz2⟩ := info_parts info_u8
  obtain ⟨v0, wb, hcv, hby0, hbel0, hblk⟩ := run_bytes (P := Try.prog) w 9 50 5 s Try.underlying9 Try.underlying50 Try.underlying5 (by unfold maxLen; omega) w.heap.size (Nat.le_refl _)
  have hl10 := enc_len10 hn
  go_enter Try.func34, Try.ntmps34
  go_wp2_with fail
  have HCV := Lib.hid hcv
  clear hcv
  go_loopw [1, 5] (fun nv v wr => ∃ (l : List UInt8) (m : Nat), nv = .int .u64 (m : Int) ∧ m ≤ n ∧ l ++ enc m = s.data.toList ++ enc n ∧ Byt wr w.heap.size 5 v l ∧ Below w.heap.size w wr) (fun nv _ _ => (intOf nv).toNat)
  case atStart => exact ⟨s.data.toList, n, rfl, Nat.le_refl _, rfl, hby0, hbel0⟩
  case round =>
    obtain ⟨l, m, rfl, hmn, hlm, hby, hbel⟩ := hrel
    have hll : l.length + (enc m).length = s.size + (enc n).length := by
      have := congrArg List.length hlm
      simpa using this
    have hep := enc_pos m
    have hbs := hbel.size
    have HB := Lib.hid hby
    have HL := Lib.hid hlm
    clear hby hlm
    by_cases hm : m < 128
    · have hge : decide ((128 : Int) ≤ (m : Int)) = false := by simp; omega
      have hc1 : (wr.alloc (.cells #[.int .u8 (m : Int)] 5)).cell? ⟨wr.heap.size, 0, none⟩ = some (.int .u8 ((UInt8.ofNat m).toNat : Int)) := by simp [go_sem]; omega
      have hc2 : w.heap.size ≤ (wr.alloc (.cells #[.int .u8 (m : Int)] 5)).heap.size := by simp; omega
      have HC := Lib.hid hc1
      clear hc1
      go_wp2_with (at_builtin; refine wpList_append_byt rfl _ _ 50 rfl w.heap.size 5 i0 Try.underlying50 hi hz0 hz1 hz2 u5 l rfl (HB.out.alloc _) ⟨wr.heap.size, 0, none⟩ 1 (UInt8.ofNat m) rfl HC.out rfl (by omega) hc2 ?_; intro v' w1 hby1 hgr; have hb1 := below_grown (hbel.alloc hbs _) (HB.out.alloc (.cells #[.int .u8 (m : Int)] 5)) hgr hc2; have hcv2 := run_string_byt (P := Try.prog) w1 w.heap.size 50 9 5 v' _ Try.underlying50 Try.underlying5 Try.underlying9 hby1; clear hgr)
      go_ret
      exact ⟨by rw [← enc_small hm, HL.out]; rfl, hb1⟩
    · have hge : decide ((128 : Int) ≤ (m : Int)) = true := by simp; omega
      have hc1 : (wr.alloc (.cells #[.int .u8 (bits .or .u8 ((m : Int) % 256) 128)] 5)).cell? ⟨wr.heap.size, 0, none⟩ = some (.int .u8 ((UInt8.ofNat (m % 128 + 128)).toNat : Int)) := by
        have h1 := Go.u8_or_nat (m % 256) 128 (by omega) (by omega)
        rw [or128] at h1
        have h2 : (((m % 256 : Nat) : Int)) = (m : Int) % 256 := by omega
        rw [h2] at h1
        have h3 : ((128 : Nat) : Int) = 128 := rfl
        rw [h3] at h1
        rw [h1]
        simp [go_sem]
        omega
      have hc2 : w.heap.size ≤ (wr.alloc (.cells #[.int .u8 (bits .or .u8 ((m : Int) % 256) 128)] 5)).heap.size := by simp; omega
      have HC := Lib.hid hc1
      clear hc1
      go_wp2_with (at_builtin; refine wpList_append_byt rfl _ _ 50 rfl w.heap.size 5 i0 Try.underlying50 hi hz0 hz1 hz2 u5 l rfl (HB.out.alloc _) ⟨wr.heap.size, 0, none⟩ 1 (UInt8.ofNat (m % 128 + 128)) rfl HC.out rfl (by omega) hc2 ?_; intro v' w1 hby1 hgr)
      have hb1 := below_grown (hbel.alloc hbs _) (HB.out.alloc (.cells #[.int .u8 (bits .or .u8 ((m : Int) % 256) 128)] 5)) hgr hc2
      go_roundw
      case rel => exact ⟨l ++ [UInt8.ofNat (m % 128 + 128)], m / 128, by simp, by omega, by rw [← HL.out, enc_big hm]; simp, hby1, hb1⟩
      case measure => simp [intOf]; omega
end Go.Proofs.Ytijhdnpaeliaoaa.Wa
