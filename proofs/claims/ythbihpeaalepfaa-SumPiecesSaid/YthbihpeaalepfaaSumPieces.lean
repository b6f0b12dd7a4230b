/- SumPieces: the walk of the law from the contracts of sum.Sum and sum.Add. Condition: the reach of a string. -/
import Derived.Test.YthbihpeaalepfaaSumCalls
import Derived.Lib.Hide
namespace Go.Proofs.Ythbihpeaalepfaa.SumPieces
open Go.RowKit Go.Proofs.Ythbihpeaalepfaa.SumMath Go.Proofs.Ythbihpeaalepfaa.SumCalls
set_option linter.unusedVariables false

theorem pack_lo {p : Int × Int} (h : 0 ≤ p.1 ∧ p.1 < 65536) : pack p % 65536 = p.1 ∧ pack p / 65536 = p.2 := by
  unfold pack; omega
theorem pieces (a b : ByteArray) : Ad (Sm a) b = Sm (a ++ b) := by
  have := fld_small 1 0 (bys a) (by omega) (by omega) (by omega) (by omega)
  obtain ⟨e1, e2⟩ := pack_lo ⟨this.1, this.2.1⟩
  unfold Ad Sm
  rw [e1, e2, bys_append, fld_append]
theorem piece0 (a : ByteArray) : Ad (Sm a) ⟨#[]⟩ = Sm a := by
  have := fld_small 1 0 (bys a) (by omega) (by omega) (by omega) (by omega)
  obtain ⟨e1, e2⟩ := pack_lo ⟨this.1, this.2.1⟩
  unfold Ad Sm
  rw [e1, e2]
  rfl
set_option maxHeartbeats 400000 in
theorem walk (a b : ByteArray) (w : World) (ha : a.size ≤ 140737488351232) (hb : b.size ≤ 140737488351232) :
    Calls Try.prog 7 #[.string a, .string b] w fun e w' => e = .returned (.bool true) ∧ Below w.heap.size w w' := by
  by_cases hl : (40000 : Int) < (a.size : Int) + (b.size : Int)
  · go_enter Try.func7, Try.ntmps7
    go_wp2_with fail
    refine (worksC _).mono ?_
    rintro e w1 ⟨rfl, hb1⟩
    go_wp2_with fail
    refine (worksC _).mono ?_
    rintro e w2 ⟨rfl, hb2⟩
    go_wp2_with fail
    go_ret
    exact ⟨rfl, hb1.trans (hb2.mono hb1.size)⟩
  · have hle : (a.size : Int) + (b.size : Int) ≤ 40000 := by omega
    have hle' : a.size + b.size ≤ 9223372036854775807 := by omega
    have q1 : (Ad (Sm a) b == Sm (a ++ b)) = true := by rw [pieces]; simp
    have q2 : (Ad (Sm a) ⟨#[]⟩ == Sm a) = true := by rw [piece0]; simp
    obtain ⟨s0, s1⟩ := Sm_bd a
    go_enter Try.func7, Try.ntmps7
    go_wp2_with fail
    refine (worksC _).mono ?_
    rintro e w1 ⟨rfl, hb1⟩
    go_wp2_with fail
    refine (sumC a ha _).mono ?_
    rintro e w2 ⟨rfl, hb2⟩
    go_wp2_with fail
    refine (addC (Sm a) s0 s1 b hb _).mono ?_
    rintro e w3 ⟨rfl, hb3⟩
    go_wp2_with fail
    refine (sumC (a ++ b) (by rw [ByteArray.size_append]; omega) _).mono ?_
    rintro e w4 ⟨rfl, hb4⟩
    go_wp2_with fail
    refine (sumC a ha _).mono ?_
    rintro e w5 ⟨rfl, hb5⟩
    go_wp2_with fail
    refine (addC (Sm a) s0 s1 ⟨#[]⟩ (by decide) _).mono ?_
    rintro e w6 ⟨rfl, hb6⟩
    go_wp2_with fail
    refine (sumC a ha _).mono ?_
    rintro e w7 ⟨rfl, hb7⟩
    go_wp2_with fail
    go_ret
    have z1 := hb1.size
    have z2 := hb2.size
    have z3 := hb3.size
    have z4 := hb4.size
    have z5 := hb5.size
    have z6 := hb6.size
    exact ⟨rfl, hb1.trans ((hb2.trans ((hb3.trans ((hb4.trans ((hb5.trans ((hb6.trans (hb7.mono z6)).mono z5)).mono z4)).mono z3)).mono z2)).mono z1)⟩
end Go.Proofs.Ythbihpeaalepfaa.SumPieces
