/- The closed examples of the sums: the printed Lean function comes to true after twenty rounds (run by the kernel). No condition. -/
import Derived.Test.YthbihpeaalepfaaPSumNamesx1
namespace Go.Proofs.Ythbihpeaalepfaa.Pure
open Go.RowKit Go.Proofs.Ythbihpeaalepfaa.PSumNames Go.Proofs.YthbihpeaalepfaaW.PrintWords Go.Proofs.YthbihpeaalepfaaW.PrintLast

theorem SumNames : callboardlaw01_SumNames.Pure := ⟨20, by decide +kernel⟩

end Go.Proofs.Ythbihpeaalepfaa.Pure
