/- Contracts at written-out values, for regions that draw their order and are walked once. No condition. -/
import Derived.Test.YtgkdmccceegifaaVx
import Derived.Lib.QuietBelow
import Derived.BigQuiet
namespace Go.Proofs.Ytgkdmccceegifaa.Vy
open Go.RowKit Go.Sort Go.Proofs.Ytgkdmccceegifaa.Vm Go.Proofs.Ytgkdmccceegifaa.Va Go.Proofs.Ytgkdmccceegifaa.Vc Go.Proofs.Ytgkdmccceegifaa.Vt Go.Proofs.Ytgkdmccceegifaa.Vz Go.Proofs.Ytgkdmccceegifaa.Vo Go.Proofs.Ytgkdmccceegifaa.Vx
set_option linter.unusedVariables false
set_option linter.unusedSimpArgs false
theorem yes1 (w : World) : Calls Try.prog 12 #[.agg #[.int .u8 2, .int .i64 1, .string ⟨#[]⟩]] w fun e w' => e = .returned (.bool true) ∧ Below w.heap.size w w' := yesT true w
theorem yes0 (w : World) : Calls Try.prog 12 #[.agg #[.int .u8 2, .int .i64 0, .string ⟨#[]⟩]] w fun e w' => e = .returned (.bool false) ∧ Below w.heap.size w w' := yesT false w
theorem ktr1 {g : Nat} {w : World} (h : Kv g (truth true) w) : w.cell? ⟨g, 0, none⟩ = some (.int .u8 2) ∧ w.cell? ⟨g, 1, none⟩ = some (.int .i64 1) ∧ w.cell? ⟨g, 2, none⟩ = some (.string ⟨#[]⟩) := ⟨h.c0, h.c1, h.c2⟩
theorem ktr0 {g : Nat} {w : World} (h : Kv g (truth false) w) : w.cell? ⟨g, 0, none⟩ = some (.int .u8 2) ∧ w.cell? ⟨g, 1, none⟩ = some (.int .i64 0) ∧ w.cell? ⟨g, 2, none⟩ = some (.string ⟨#[]⟩) := ⟨h.c0, h.c1, h.c2⟩
theorem on2 {w W w1 : World} (hB : Below w.heap.size w W) (h : Below W.heap.size W w1) : Below w.heap.size w w1 := hB.trans (h.mono hB.size)
end Go.Proofs.Ytgkdmccceegifaa.Vy
