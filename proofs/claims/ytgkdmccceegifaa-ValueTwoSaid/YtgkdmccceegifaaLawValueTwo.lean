/- ValueTwo: the walk of the law, from the contracts of value.Two and of the reference's Two. No condition but the numbers' own range. -/
import Derived.Test.YtgkdmccceegifaaVr
namespace Go.Proofs.Ytgkdmccceegifaa.LawValueTwo
open Go.RowKit Go.Proofs.Ytgkdmccceegifaa.Vm Go.Proofs.Ytgkdmccceegifaa.Va Go.Proofs.Ytgkdmccceegifaa.Vc Go.Proofs.Ytgkdmccceegifaa.Vt Go.Proofs.Ytgkdmccceegifaa.Vz Go.Proofs.Ytgkdmccceegifaa.Vq Go.Proofs.Ytgkdmccceegifaa.Vf
set_option linter.unusedVariables false
set_option linter.unusedSimpArgs false
set_option maxHeartbeats 4000000
theorem walk (op : Int) (a b : V) (W : World) (ha : R a.n) (hb : R b.n) : Calls Try.prog 3 #[.int .u8 op, .agg #[.int .u8 a.k, .int .i64 a.n, .string a.t], .agg #[.int .u8 b.k, .int .i64 b.n, .string b.t]] W fun e W' => e = .returned (.bool true) ∧ Below W.heap.size W W' := by
  by_cases s1 : (2000 : Int) < a.t.size
  · go_enter Try.func3, Try.ntmps3
    go_wp2
    go_returns
    exact ⟨rfl, by (repeat' (first | (with_reducible exact Below.refl _ _) | (with_reducible assumption) | (with_reducible refine Below.alloc ?_ ?_ _) | (with_reducible refine Below.drew ?_) | (with_reducible refine below_drewN ?_ _) | (with_reducible refine Below.setCell ?_ ?_ _) | (with_reducible refine Below.trans ?_ (Below.mono (by with_reducible assumption) ?_)) | (simp only [World.size_alloc, World.size_setCell, World.heap_drewN, World.size_drew]; omega) | omega | (simp; omega) | (simp; done)))⟩
  by_cases s2 : (2000 : Int) < b.t.size
  · go_enter Try.func3, Try.ntmps3
    go_wp2
    go_returns
    exact ⟨rfl, by (repeat' (first | (with_reducible exact Below.refl _ _) | (with_reducible assumption) | (with_reducible refine Below.alloc ?_ ?_ _) | (with_reducible refine Below.drew ?_) | (with_reducible refine below_drewN ?_ _) | (with_reducible refine Below.setCell ?_ ?_ _) | (with_reducible refine Below.trans ?_ (Below.mono (by with_reducible assumption) ?_)) | (simp only [World.size_alloc, World.size_setCell, World.heap_drewN, World.size_drew]; omega) | omega | (simp; omega) | (simp; done)))⟩
  obtain ⟨r, hr⟩ : ∃ r, two op a b = r := ⟨_, rfl⟩
  have HR := Lib.hid hr
  have HA := Lib.hid ha
  have HB := Lib.hid hb
  clear hr ha hb
  obtain ⟨⟨k, n, t⟩, c⟩ := r
  go_enter Try.func3, Try.ntmps3
  go_wp2_with fail
  refine (twoR op a b _ HR.out _).mono ?_
  rintro e w1 ⟨rfl, hb1⟩; obtain ⟨chb1, fhb1⟩ := bcell hb1; have zhb1 := hb1.size; (try simp only [World.size_alloc, World.size_setCell, World.heap_drewN, World.size_drew] at zhb1); have zzhb10 : W.heap.size < w1.heap.size := (by omega); have zzhb11 : W.heap.size + 1 < w1.heap.size := (by omega)
  go_wp2_with fail
  refine (rtwoR op a b _ HR.out HA.out HB.out _).mono ?_
  rintro e w2 ⟨rfl, hb2⟩; obtain ⟨chb2, fhb2⟩ := bcell hb2; have zhb2 := hb2.size; (try simp only [World.size_alloc, World.size_setCell, World.heap_drewN, World.size_drew] at zhb2); have zzhb20 : W.heap.size < w2.heap.size := (by omega); have zzhb21 : W.heap.size + 1 < w2.heap.size := (by omega); have zzhb22 : w1.heap.size < w2.heap.size := (by omega)
  go_wp2_with fail
  go_returns
  exact ⟨by simp, by (repeat' (first | (with_reducible exact Below.refl _ _) | (with_reducible assumption) | (with_reducible refine Below.alloc ?_ ?_ _) | (with_reducible refine Below.drew ?_) | (with_reducible refine below_drewN ?_ _) | (with_reducible refine Below.setCell ?_ ?_ _) | (with_reducible refine Below.trans ?_ (Below.mono (by with_reducible assumption) ?_)) | (simp only [World.size_alloc, World.size_setCell, World.heap_drewN, World.size_drew]; omega) | omega | (simp; omega) | (simp; done)))⟩
end Go.Proofs.Ytgkdmccceegifaa.LawValueTwo
