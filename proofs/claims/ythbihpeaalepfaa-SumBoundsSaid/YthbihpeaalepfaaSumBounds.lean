/- SumBounds: the walk of the law from the contracts of sum.Sum and sum.Both. Condition: the reach of a string. -/
import Derived.Test.YthbihpeaalepfaaSumCalls
import Derived.Lib.Hide
import Derived.BigRegion
namespace Go.Proofs.Ythbihpeaalepfaa.SumBounds
open Go.RowKit Go.Proofs.Ythbihpeaalepfaa.SumMath Go.Proofs.Ythbihpeaalepfaa.SumCalls Go.Proofs.YthbihpeaalepfaaW.PrintWords
set_option linter.unusedVariables false

theorem u64_nonneg (x : Int) : 0 ≤ IntKind.u64.wrap x := by
  rw [IntKind.wrap_u64]; omega
theorem info5 : (Try.prog.info? 5).map (fun i => (i.zero, i.size, i.bytes)) = some (some (.int .u8 0), 1, 1) := by kernel_rfl
theorem few (x : Int) : ∃ m : Nat, m < 500 ∧ wrap64 ((IntKind.u64.wrap x).tmod 500) = (m : Int) := by
  have h0 := u64_nonneg x
  rw [Int.tmod_eq_emod_of_nonneg h0]
  generalize IntKind.u64.wrap x = y at *
  have h1 : 0 ≤ y % 500 := Int.emod_nonneg _ (by omega)
  have h2 : y % 500 < 500 := Int.emod_lt_of_pos _ (by omega)
  generalize y % 500 = z at *
  refine ⟨z.toNat, by omega, ?_⟩
  unfold wrap64
  omega
theorem made_zero (m : Nat) : (madeCells (Value.int .u8 0).cells (m * 1)).toList = nums .u8 (List.replicate m 0) := by
  unfold madeCells nums
  apply List.ext_getElem
  · simp
  · intro i h1 h2
    simp [Value.cells, Nat.mod_one]
def zs (m : Nat) : ByteArray := strOfNums (List.replicate m 0)
theorem zs_size (m : Nat) : (zs m).size = m := by unfold zs; rw [strOfNums_size]; simp
theorem zs_bys (m : Nat) : bys (zs m) = List.replicate m 0 := by
  unfold bys zs
  rw [strOfNums_data]
  simp
theorem place (s : ByteArray) (x : Int) (h : (s.size : Int) ≤ 40000) : ∃ k : Nat, k ≤ s.size ∧ wrap64 ((IntKind.u64.wrap x).tmod (↑s.size + 1)) = (k : Int) := by
  have h0 := u64_nonneg x
  rw [Int.tmod_eq_emod_of_nonneg h0]
  generalize IntKind.u64.wrap x = y at *
  have h1 : 0 ≤ y % ((s.size : Int) + 1) := Int.emod_nonneg _ (by omega)
  have h2 : y % ((s.size : Int) + 1) < (s.size : Int) + 1 := Int.emod_lt_of_pos _ (by omega)
  generalize y % ((s.size : Int) + 1) = z at *
  refine ⟨z.toNat, by omega, ?_⟩
  unfold wrap64
  omega
theorem fst_of (s : ByteArray) : Sm s % 65536 = (fld (1, 0) (bys s)).1 ∧ Sm s / 65536 = (fld (1, 0) (bys s)).2 := by
  have := fld_small 1 0 (bys s) (by omega) (by omega) (by omega) (by omega)
  unfold Sm pack
  omega
theorem in_of (s : ByteArray) : In (fld (1, 0) (bys s)) := fld_in (by unfold In; omega) _
theorem turned (s : ByteArray) (k : Nat) : (Sm (s.extract k s.size ++ s.extract 0 k) % 65536 == Sm s % 65536) = true := by
  rw [beq_iff_eq, (fst_of _).1, (fst_of _).1, bys_append, fst_turned _ (by unfold In; omega), ← bys_append]
  have e : s.extract 0 k ++ s.extract k s.size = s := by
    apply ByteArray.ext
    rw [ByteArray.data_append, ByteArray.data_extract, ByteArray.data_extract]
    rw [Array.extract_append_extract]
    simp
    exact Or.inr (Nat.le_max_right k s.data.size)
  rw [e]
theorem tail_fst (s : ByteArray) (m : Nat) : (Sm (s ++ zs m) % 65536 == Sm s % 65536) = true := by
  rw [beq_iff_eq, (fst_of _).1, (fst_of _).1, bys_append, fld_append, zs_bys, zeros _ (in_of s)]
theorem tail_snd (s : ByteArray) (m : Nat) : (Sm (s ++ zs m) / 65536 == (Sm s / 65536 + (m : Int) * (Sm s % 65536)) % 65521) = true := by
  rw [beq_iff_eq, (fst_of _).2, (fst_of _).1, (fst_of s).2, bys_append, fld_append, zs_bys, zeros _ (in_of s)]
theorem prod_bd (s : ByteArray) (m : Nat) (hm : m < 500) : 0 ≤ (m : Int) * (Sm s % 65536) ∧ (m : Int) * (Sm s % 65536) ≤ 32768000 := by
  have h0 : 0 ≤ Sm s % 65536 := by omega
  have h1 : Sm s % 65536 ≤ 65536 := by omega
  have := Int.mul_le_mul (show (m : Int) ≤ 500 by omega) h1 h0 (by omega)
  exact ⟨Int.mul_nonneg (by omega) h0, by omega⟩
set_option maxHeartbeats 1000000 in
theorem walk (s : ByteArray) (at_ n : Int) (w : World) (ha : s.size ≤ 140737488351232) (hat : (Lit.int .i64 at_).wf = true) (hn : (Lit.int .i64 n).wf = true) :
    Calls Try.prog 4 #[.string s, .int .i64 at_, .int .i64 n] w fun e w' => e = .returned (.bool true) ∧ Below w.heap.size w w' := by
  by_cases hl : (40000 : Int) < (s.size : Int)
  · go_enter Try.func4, Try.ntmps4
    go_wp2_with fail
    refine (worksC _).mono ?_
    rintro e w1 ⟨rfl, hb1⟩
    go_wp2_with fail
    refine (worksC _).mono ?_
    rintro e w2 ⟨rfl, hb2⟩
    go_wp2_with fail
    go_ret
    exact ⟨rfl, hb1.trans (hb2.mono hb1.size)⟩
  · have hle : (s.size : Int) ≤ 40000 := by omega
    obtain ⟨s0, s1⟩ := Sm_bd s
    obtain ⟨k, hk, ek⟩ := place s at_ hle
    obtain ⟨m, hm, em⟩ := few n
    have hzm : (zs m).size = m := zs_size m
    have hcz : s.size + (zs m).size ≤ 9223372036854775807 := by omega
    have hcz' : s.size + (zs m).size ≤ 140737488351232 := by omega
    clear hzm
    obtain ⟨i0, hi, hz0, hz1, hz2⟩ := info_parts info5
    have hk2 : (k : Int) ≤ (s.size : Int) := by omega
    go_enter Try.func4, Try.ntmps4
    go_wp2_with fail
    refine (worksC _).mono ?_
    rintro e w1 ⟨rfl, hb1⟩
    go_wp2_with fail
    refine (sumC s ha _).mono ?_
    rintro e w2 ⟨rfl, hb2⟩
    go_wp2_with fail
    refine (bothC (Sm s) s0 s1 _).mono ?_
    rintro e w3 ⟨rfl, ⟨n3, rfl⟩⟩
    have b1 : 0 ≤ Sm s % 65536 := by omega
    have b2 : Sm s % 65536 ≤ 65520 := by have := in_of s; rw [(fst_of s).1]; unfold In at this; omega
    have b3 : 0 ≤ Sm s / 65536 := by omega
    have b4 : Sm s / 65536 ≤ 65520 := by have := in_of s; rw [(fst_of s).2]; unfold In at this; omega
    go_wp2_with fail
    rw [ek]
    go_region_with (first | (go_at_call 9; refine (sumC _ (by simp; omega) _).mono ?_; rintro e w4 ⟨rfl, hb4⟩) | (go_at_call 10; refine (bothC _ (Sm_bd _).1 (Sm_bd _).2 _).mono ?_; rintro e w5 ⟨rfl, ⟨n5, rfl⟩⟩))
    go_wp2_with (first | (at_make; refine wpList_make_full _ rfl (.tmp 68) (.tmp 68) 24 rfl 0 5 i0 (.int .u8 0) 1 Try.underlying24 hi hz0 hz1 .i64 .i64 _ _ m rfl rfl em em (by rw [hz2]; omega) (by unfold maxLen; omega) (Nat.zero_le _) ?_; intro w6 hown hg6; rw [made_zero] at hown; simp only [World.heap_drewN] at hown; have hstr : (convert 24 9 (.slice (some ⟨w4.heap.size, 0, none⟩) m m)).run Try.prog w6 = .ok (.string (zs m)) w6 := own_string Try.underlying24 Try.underlying5 Try.underlying9 hown))
    clear hstr
    refine (sumC (s ++ zs m) (by rw [ByteArray.size_append]; exact hcz') _).mono ?_
    rintro e w7 ⟨rfl, hb7⟩
    go_wp2_with fail
    refine (bothC (Sm (s ++ zs m)) (Sm_bd _).1 (Sm_bd _).2 _).mono ?_
    rintro e w8 ⟨rfl, ⟨n8, rfl⟩⟩
    have q1 := turned s k
    have q2 := tail_fst s m
    have q3 := tail_snd s m
    obtain ⟨p0, p1⟩ := prod_bd s m hm
    go_wp2_with fail
    go_ret
    have B2 := hb1.trans (hb2.mono hb1.size)
    have B3 := pw_below_drewN B2 (n3 + 1)
    have B4 := pw_below_drewN (B3.trans (hb4.mono B3.size)) n5
    have B6 := B4.grown hg6 B4.size (by intro k h; cases h)
    have B7 := pw_below_drewN (B6.trans (hb7.mono B6.size)) n8
    exact ⟨rfl, B7⟩
end Go.Proofs.Ythbihpeaalepfaa.SumBounds
