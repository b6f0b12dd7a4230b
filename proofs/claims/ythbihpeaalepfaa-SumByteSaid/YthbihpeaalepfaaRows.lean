/-
  No cell of these rows narrows 'for every input' (looked for: loops, veiled, ifaces, maps, wideKeys, modest, calm, conditions, laid).
  DERIVED. THE GIVEN ROWS OF THIS SEAT. 5 by the template 'for every input the law returns true; each argument reads behind the call as it read before'; 0 by the template 'total and deterministic' (their statements: YthbihpeaalepfaaTotals.lean).
  GIVEN WITH THE SEED: the statements are not yours to turn. If you find one false, say at which input.
  Laid BY PROGRAM, IN A SANDBOX (cutbox-rows.mjs): the forced cells as the released guide's own fill.sh prints them over the translation 385bde5a9924c07e… (all of the seat's roots in one cut). By AI agents, Wed Nov 11 2026. No macro, syntax, notation, axiom, sorry.
-/
import Derived.Test.YthbihpeaalepfaaChecked
import GoSem.Claim
import GoSem.ClaimJoined
import GoSem.ClaimMapViews
import Derived.JoinedTies
import Derived.KernelRfl
namespace Go.Proofs.Ythbihpeaalepfaa
/- THE CELL 'sum', in the pinned program and in every row, IS THE sha256 OF THE DUMP (.gsa) THAT YthbihpeaalepfaaProg.lean LOADS. Nothing in Lean hashes anything: it is a label: what it is worth is what the hold of that sum in a sandbox is worth. -/
noncomputable def Try.pinned : Pinned := { name := "ythbihpeaalepfaa", sum := "385bde5a9924c07e577617051f9b5bcdbc78e4b6f5e3d5d64e33f456779e2743", checked := Try.checked }
namespace Rows
def none {H : Type} : Left H := { results := [], args := [] }

/-- 'callboardlaw01.SumByte': WHATEVER THE INPUT: true; the input reads as it did. -/
def sumByteSpec : ChangeSpec := { name := "sumByte", fn := fun _ => fun
  | [d1, d2, d3] => { results := [.lit (.bool true)], args := [d1, d2, d3] }
  | _ => none }
def sumByteRow : OpenClaim := { program := "ythbihpeaalepfaa", sum := "385bde5a9924c07e577617051f9b5bcdbc78e4b6f5e3d5d64e33f456779e2743", func := "callboard/callboardlaw01.SumByte", spec := "sumByte", apart := false }
def SumByteSaid : Prop := sumByteRow.holds Try.pinned (OpenSpec.ofChange sumByteSpec)

/-- ITS FALSE NEIGHBOUR: 'it returns false'. Refute it at one input. -/
def sumByteWrong : ChangeSpec := { name := "sumByte", fn := fun _ => fun
  | [d1, d2, d3] => { results := [.lit (.bool false)], args := [d1, d2, d3] }
  | _ => none }
def SumByteWrongFalsely : Prop := sumByteRow.holds Try.pinned (OpenSpec.ofChange sumByteWrong)

/-- 'callboardlaw01.SumBounds': WHATEVER THE INPUT: true; the input reads as it did. -/
def sumBoundsSpec : ChangeSpec := { name := "sumBounds", fn := fun _ => fun
  | [d1, d2, d3] => { results := [.lit (.bool true)], args := [d1, d2, d3] }
  | _ => none }
def sumBoundsRow : OpenClaim := { program := "ythbihpeaalepfaa", sum := "385bde5a9924c07e577617051f9b5bcdbc78e4b6f5e3d5d64e33f456779e2743", func := "callboard/callboardlaw01.SumBounds", spec := "sumBounds", apart := false }
def SumBoundsSaid : Prop := sumBoundsRow.holds Try.pinned (OpenSpec.ofChange sumBoundsSpec)

/-- ITS FALSE NEIGHBOUR: 'it returns false'. Refute it at one input. -/
def sumBoundsWrong : ChangeSpec := { name := "sumBounds", fn := fun _ => fun
  | [d1, d2, d3] => { results := [.lit (.bool false)], args := [d1, d2, d3] }
  | _ => none }
def SumBoundsWrongFalsely : Prop := sumBoundsRow.holds Try.pinned (OpenSpec.ofChange sumBoundsWrong)

/-- 'callboardlaw01.SumNames': WHATEVER THE INPUT: true; the input reads as it did. -/
def sumNamesSpec : ChangeSpec := { name := "sumNames", fn := fun _ => fun
  | [] => { results := [.lit (.bool true)], args := [] }
  | _ => none }
def sumNamesRow : OpenClaim := { program := "ythbihpeaalepfaa", sum := "385bde5a9924c07e577617051f9b5bcdbc78e4b6f5e3d5d64e33f456779e2743", func := "callboard/callboardlaw01.SumNames", spec := "sumNames", apart := false }
def SumNamesSaid : Prop := sumNamesRow.holds Try.pinned (OpenSpec.ofChange sumNamesSpec)

/-- ITS FALSE NEIGHBOUR: 'it returns false'. Refute it at one input. -/
def sumNamesWrong : ChangeSpec := { name := "sumNames", fn := fun _ => fun
  | [] => { results := [.lit (.bool false)], args := [] }
  | _ => none }
def SumNamesWrongFalsely : Prop := sumNamesRow.holds Try.pinned (OpenSpec.ofChange sumNamesWrong)

/-- 'callboardlaw01.SumTells': WHATEVER THE INPUT: true; the input reads as it did. -/
def sumTellsSpec : ChangeSpec := { name := "sumTells", fn := fun _ => fun
  | [d1, d2] => { results := [.lit (.bool true)], args := [d1, d2] }
  | _ => none }
def sumTellsRow : OpenClaim := { program := "ythbihpeaalepfaa", sum := "385bde5a9924c07e577617051f9b5bcdbc78e4b6f5e3d5d64e33f456779e2743", func := "callboard/callboardlaw01.SumTells", spec := "sumTells", apart := false }
def SumTellsSaid : Prop := sumTellsRow.holds Try.pinned (OpenSpec.ofChange sumTellsSpec)

/-- ITS FALSE NEIGHBOUR: 'it returns false'. Refute it at one input. -/
def sumTellsWrong : ChangeSpec := { name := "sumTells", fn := fun _ => fun
  | [d1, d2] => { results := [.lit (.bool false)], args := [d1, d2] }
  | _ => none }
def SumTellsWrongFalsely : Prop := sumTellsRow.holds Try.pinned (OpenSpec.ofChange sumTellsWrong)

/-- 'callboardlaw01.SumPieces': WHATEVER THE INPUT: true; the input reads as it did. -/
def sumPiecesSpec : ChangeSpec := { name := "sumPieces", fn := fun _ => fun
  | [d1, d2] => { results := [.lit (.bool true)], args := [d1, d2] }
  | _ => none }
def sumPiecesRow : OpenClaim := { program := "ythbihpeaalepfaa", sum := "385bde5a9924c07e577617051f9b5bcdbc78e4b6f5e3d5d64e33f456779e2743", func := "callboard/callboardlaw01.SumPieces", spec := "sumPieces", apart := false }
def SumPiecesSaid : Prop := sumPiecesRow.holds Try.pinned (OpenSpec.ofChange sumPiecesSpec)

/-- ITS FALSE NEIGHBOUR: 'it returns false'. Refute it at one input. -/
def sumPiecesWrong : ChangeSpec := { name := "sumPieces", fn := fun _ => fun
  | [d1, d2] => { results := [.lit (.bool false)], args := [d1, d2] }
  | _ => none }
def SumPiecesWrongFalsely : Prop := sumPiecesRow.holds Try.pinned (OpenSpec.ofChange sumPiecesWrong)

/- THE SECOND FORM. 'bulk': how many values and letters a reading holds, each counted each time it is reached (what is shared counts as often as it is met; a slice's spare places count too). A statement '..UptoSaid' is the law's where the arguments, and the package variables that the reading takes, are together of bulk at most 1048576: NARROWER than '..Said'. Prove '..Said' where nothing that the law and all that it calls make is longer than what came in: it says more and counts as full. Else prove '..UptoSaid'. A law counts once. -/
mutual
def uptoBulk {H : Type} : DataW H → Nat
  | .lit (.string bytes) => bytes.length + 1
  | .lit _ => 1
  | .nil => 1
  | .ptr d => uptoBulk d + 1
  | .slice elems spare => uptoBulkAll elems + uptoBulkAll spare + 1
  | .agg parts => uptoBulkAll parts + 1
  | .iface _ d => uptoBulk d + 1
  | .map entries => uptoBulkEntries entries + 1
  | .held _ => 1
def uptoBulkAll {H : Type} : List (DataW H) → Nat
  | [] => 0
  | d :: r => uptoBulk d + uptoBulkAll r
def uptoBulkEntries {H : Type} : List (Lit × DataW H) → Nat
  | [] => 0
  | x :: r => uptoBulkEntry x + uptoBulkEntries r
def uptoBulkEntry {H : Type} : Lit × DataW H → Nat
  | (.string bytes, d) => bytes.length + uptoBulk d + 1
  | (_, d) => uptoBulk d + 1
 end
def uptoSmall : (H : Type) → List (DataW H) → Bool := fun _ ds => decide (uptoBulkAll ds ≤ 1048576)
def OpenSpec.upto (s : _root_.Go.ChangeSpec) : _root_.Go.OpenSpec := { _root_.Go.OpenSpec.ofChange s with cond := some uptoSmall }

/-- 'callboardlaw01.SumByte', WHERE WHAT IT READS IS OF BULK AT MOST 1048576: true; the input reads as it did. -/
def sumByteUptoRow : OpenClaim := { program := "ythbihpeaalepfaa", sum := "385bde5a9924c07e577617051f9b5bcdbc78e4b6f5e3d5d64e33f456779e2743", func := "callboard/callboardlaw01.SumByte", spec := "sumByte", apart := false, narrowed := true }
def SumByteUptoSaid : Prop := sumByteUptoRow.holds Try.pinned (OpenSpec.upto sumByteSpec)

/-- 'callboardlaw01.SumBounds', WHERE WHAT IT READS IS OF BULK AT MOST 1048576: true; the input reads as it did. -/
def sumBoundsUptoRow : OpenClaim := { program := "ythbihpeaalepfaa", sum := "385bde5a9924c07e577617051f9b5bcdbc78e4b6f5e3d5d64e33f456779e2743", func := "callboard/callboardlaw01.SumBounds", spec := "sumBounds", apart := false, narrowed := true }
def SumBoundsUptoSaid : Prop := sumBoundsUptoRow.holds Try.pinned (OpenSpec.upto sumBoundsSpec)

/-- 'callboardlaw01.SumNames', WHERE WHAT IT READS IS OF BULK AT MOST 1048576: true; the input reads as it did. -/
def sumNamesUptoRow : OpenClaim := { program := "ythbihpeaalepfaa", sum := "385bde5a9924c07e577617051f9b5bcdbc78e4b6f5e3d5d64e33f456779e2743", func := "callboard/callboardlaw01.SumNames", spec := "sumNames", apart := false, narrowed := true }
def SumNamesUptoSaid : Prop := sumNamesUptoRow.holds Try.pinned (OpenSpec.upto sumNamesSpec)

/-- 'callboardlaw01.SumTells', WHERE WHAT IT READS IS OF BULK AT MOST 1048576: true; the input reads as it did. -/
def sumTellsUptoRow : OpenClaim := { program := "ythbihpeaalepfaa", sum := "385bde5a9924c07e577617051f9b5bcdbc78e4b6f5e3d5d64e33f456779e2743", func := "callboard/callboardlaw01.SumTells", spec := "sumTells", apart := false, narrowed := true }
def SumTellsUptoSaid : Prop := sumTellsUptoRow.holds Try.pinned (OpenSpec.upto sumTellsSpec)

/-- 'callboardlaw01.SumPieces', WHERE WHAT IT READS IS OF BULK AT MOST 1048576: true; the input reads as it did. -/
def sumPiecesUptoRow : OpenClaim := { program := "ythbihpeaalepfaa", sum := "385bde5a9924c07e577617051f9b5bcdbc78e4b6f5e3d5d64e33f456779e2743", func := "callboard/callboardlaw01.SumPieces", spec := "sumPieces", apart := false, narrowed := true }
def SumPiecesUptoSaid : Prop := sumPiecesUptoRow.holds Try.pinned (OpenSpec.upto sumPiecesSpec)

end Rows
end Go.Proofs.Ythbihpeaalepfaa
