/- ValueTruths: the walk of the law, its four cases joined. No condition. -/
import Derived.Test.YtgkdmccceegifaaVtrtt
import Derived.Test.YtgkdmccceegifaaVtrtf
import Derived.Test.YtgkdmccceegifaaVtrft
import Derived.Test.YtgkdmccceegifaaVtrff
namespace Go.Proofs.Ytgkdmccceegifaa.LawValueTruths
open Go.RowKit
theorem walk (p q : Bool) (w : World) : Calls Try.prog 6 #[.bool p, .bool q] w fun e w' => e = .returned (.bool true) ∧ Below w.heap.size w w' := by
  cases p <;> cases q
  · exact Vtr.walk_false_false w
  · exact Vtr.walk_false_true w
  · exact Vtr.walk_true_false w
  · exact Vtr.walk_true_true w
end Go.Proofs.Ytgkdmccceegifaa.LawValueTruths
