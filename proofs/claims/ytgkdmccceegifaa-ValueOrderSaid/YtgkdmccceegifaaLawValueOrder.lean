/- ValueOrder: the walk of the law joined: long texts, values that do not fit, and the three ways that two values can stand. No condition but the numbers' own range. -/
import Derived.Test.YtgkdmccceegifaaLawOrder0
import Derived.Test.YtgkdmccceegifaaVordL
import Derived.Test.YtgkdmccceegifaaVordG
import Derived.Test.YtgkdmccceegifaaVordE
namespace Go.Proofs.Ytgkdmccceegifaa.LawValueOrder
open Go.RowKit Go.Proofs.Ytgkdmccceegifaa.Vm Go.Proofs.Ytgkdmccceegifaa.Va Go.Proofs.Ytgkdmccceegifaa.Vc Go.Proofs.Ytgkdmccceegifaa.Vt Go.Proofs.Ytgkdmccceegifaa.Vz Go.Proofs.Ytgkdmccceegifaa.Vo Go.Proofs.Ytgkdmccceegifaa.Vx Go.Proofs.Ytgkdmccceegifaa.Vf
set_option linter.unusedVariables false
set_option linter.unusedSimpArgs false
set_option maxRecDepth 100000
set_option maxHeartbeats 1000000
theorem walk (a b c : V) (W : World) (ra : Vq.R a.n) (rb : Vq.R b.n) (rc : Vq.R c.n) : Calls Try.prog 5 #[.agg #[.int .u8 a.k, .int .i64 a.n, .string a.t], .agg #[.int .u8 b.k, .int .i64 b.n, .string b.t], .agg #[.int .u8 c.k, .int .i64 c.n, .string c.t]] W fun e W' => e = .returned (.bool true) ∧ Below W.heap.size W W' := by
  by_cases h : (2000 : Int) < a.t.size ∨ (2000 : Int) < b.t.size ∨ (2000 : Int) < c.t.size
  · exact long a b c W h
  by_cases hf : fits 9 a b = true
  · have hF := fit_of hf
    have hF2 : Fit b a := ⟨hF.1.symm, by have := hF.1; have := hF.2; omega⟩
    have t1 := two9 hF
    have t2 := two9 hF2
    have t3 := two11 hF
    have t4 := two10 hF
    have t5 := two12 hF
    cases hl : lessB a b
    · obtain ⟨v6, v7, e6, e7, h6, h7, hc⟩ := third (c := c) false hF hl
      cases hg : lessB b a
      · simp only [hl, hg, Bool.not_false, Bool.not_true, Bool.and_true, Bool.and_false, Bool.true_and] at t1 t2 t3 t4 t5
        exact fitE a b c W v6 v7 e6 e7 (by omega) (by omega) (by omega) t1 t2 t3 t4 t5 h6 h7 hc
      · simp only [hl, hg, Bool.not_false, Bool.not_true, Bool.and_true, Bool.and_false, Bool.true_and] at t1 t2 t3 t4 t5
        exact fitG a b c W v6 v7 e6 e7 (by omega) (by omega) (by omega) t1 t2 t3 t4 t5 h6 h7 hc
    · obtain ⟨v6, v7, e6, e7, h6, h7, hc⟩ := third (c := c) true hF hl
      have hg := less_not hF hl
      simp only [hl, hg, Bool.not_false, Bool.not_true, Bool.and_true, Bool.and_false, Bool.true_and, Bool.false_and] at t1 t2 t3 t4 t5
      exact fitL a b c W v6 v7 e6 e7 (by omega) (by omega) (by omega) t1 t2 t3 t4 t5 h6 h7 hc
  · exact unfit a b c W _ _ (by omega) (by omega) (by omega) (unfit9 hf) rfl rfl
end Go.Proofs.Ytgkdmccceegifaa.LawValueOrder
