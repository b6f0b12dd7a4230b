/- ValueOrder: the row of the law over its walk (YtgkdmccceegifaaLawValueOrder). The arguments are opened, the walk is called, they are shut again. No condition of our own. -/
import Derived.Test.YtgkdmccceegifaaRows
import Derived.Test.YtgkdmccceegifaaLawValueOrder
import Derived.WalkKit
import Derived.ProofKit
import Derived.OpenShut
import Derived.ShutString
import Derived.ChangeOld
import Derived.Below
import Derived.SizedLaws
import Derived.Lib.SmallJoins
namespace Go.Proofs.Ytgkdmccceegifaa.rowValueOrder
open Go.ChangeShapes Go.WideShapes Go.ChangeAt Go.RowKit
open Go.ChangeMaps (open_string shut_string)
open Go.Joins
set_option linter.unusedVariables false
theorem bndN {n : Int} (h : (Lit.int .i64 n).wf = true) : Vq.R n := by
  simp [Lit.wf, IntKind.min, IntKind.max, IntKind.bits, IntKind.signed] at h
  unfold Vq.R
  omega
theorem own : ownKnob Try.prog.godebug = none := by kernel_rfl
set_option maxRecDepth 100000 in
theorem lifted (os : Os) (started : os.Started) (H : Type) (enc : TypeId × Value → H) :
    ReturnsInHanded {} Try.checked os 5 .any (Rows.valueOrderSpec.pre6 enc Try.prog Try.f5 Rows.valueOrderRow.domain false) (Rows.valueOrderSpec.post enc Try.prog Try.f5 false true false false) := by
  refine returnsInHanded_of_change_sized (C := Try.checked) own started (by kernel_rfl) Try.func5
    (ChangeSpec.witness6 (enc := enc) (C := Try.checked) false ⟨#[], #[.agg #[.int .u8 0, .int .i64 0, .string ByteArray.empty], .agg #[.int .u8 0, .int .i64 0, .string ByteArray.empty], .agg #[.int .u8 0, .int .i64 0, .string ByteArray.empty]], []⟩ 8 (by kernel_rfl) (by kernel_rfl) (by kernel_rfl) (by kernel_rfl)) ?_
  intro W base args ds gs before hval0 hW hcnd hsz0 _
  have hsz : (DataW.weightsEach Try.prog (Try.f5.params.toList ++ Rows.valueOrderSpec.plain.varTypes Try.prog) (ds ++ gs)).all (· ≤ reachBytes) = true := hsz0
  have hval : ∀ (j : Nat) t v, Try.f5.params[j]? = some t → args[j]? = some v → Value.okWide Try.prog W .any base t v := hval0
  have hW' := hW
  obtain ⟨p, q, hA0, hV, rfl, hfz, hnd⟩ := hW
  have hA : DataW.TrodAll enc Try.prog W 0 (fun _ => true) true Try.f5.params.toList args.toList ds p := hA0
  rw [Try.params5] at hA hval hsz
  obtain ⟨v0, vs0, d0, ds0, p0, q0, hargs, rfl, rfl, h0, r0⟩ := trodAll_cons hA
  obtain ⟨v1, vs1, d1, ds1, p1, q1, rfl, rfl, rfl, h1, r1⟩ := trodAll_cons r0
  obtain ⟨v2, vs2, d2, ds2, p2, q2, rfl, rfl, rfl, h2, r2⟩ := trodAll_cons r1
  obtain ⟨rfl, rfl, rfl⟩ := trodAll_nil r2
  obtain rfl : args = #[v0, v1, v2] := by cases args; simp_all
  obtain ⟨rfl, rfl⟩ := trodVars_none hV
  obtain ⟨c0, c0b, c0c, y0, y0b, y0c, m0, rfl, rfl, rfl, hy0, hy0b, hy0c⟩ := open_agg3 Try.underlying23 (by kernel_rfl) (by kernel_rfl) (hval 0 23 v0 rfl rfl) h0
  obtain ⟨a0k, e0, rfl, wk0⟩ := DataW.trod_int Try.underlying5 hy0
  obtain ⟨a0n, e0b, rfl, wn0⟩ := DataW.trod_int Try.underlying2 hy0b
  obtain ⟨a0t, e0c, rfl, ws0⟩ := DataW.trod_string Try.underlying9 hy0c
  simp only [List.cons.injEq, and_true] at e0 e0b e0c
  subst e0 e0b e0c
  obtain ⟨c1, c1b, c1c, y1, y1b, y1c, m1, rfl, rfl, rfl, hy1, hy1b, hy1c⟩ := open_agg3 Try.underlying23 (by kernel_rfl) (by kernel_rfl) (hval 1 23 v1 rfl rfl) h1
  obtain ⟨a1k, e1, rfl, wk1⟩ := DataW.trod_int Try.underlying5 hy1
  obtain ⟨a1n, e1b, rfl, wn1⟩ := DataW.trod_int Try.underlying2 hy1b
  obtain ⟨a1t, e1c, rfl, ws1⟩ := DataW.trod_string Try.underlying9 hy1c
  simp only [List.cons.injEq, and_true] at e1 e1b e1c
  subst e1 e1b e1c
  obtain ⟨c2, c2b, c2c, y2, y2b, y2c, m2, rfl, rfl, rfl, hy2, hy2b, hy2c⟩ := open_agg3 Try.underlying23 (by kernel_rfl) (by kernel_rfl) (hval 2 23 v2 rfl rfl) h2
  obtain ⟨a2k, e2, rfl, wk2⟩ := DataW.trod_int Try.underlying5 hy2
  obtain ⟨a2n, e2b, rfl, wn2⟩ := DataW.trod_int Try.underlying2 hy2b
  obtain ⟨a2t, e2c, rfl, ws2⟩ := DataW.trod_string Try.underlying9 hy2c
  simp only [List.cons.injEq, and_true] at e2 e2b e2c
  subst e2 e2b e2c
  clear hA0 hval0 hsz0 hsz
  refine (LawValueOrder.walk ⟨a0k, a0n, a0t⟩ ⟨a1k, a1n, a1t⟩ ⟨a2k, a2n, a2t⟩ W (bndN wn0) (bndN wn1) (bndN wn2)).mono fun e W' ⟨he, bel⟩ => ?_
  subst he
  exact ⟨_, rfl, _, _, _, [], _, [], hW', trodAll_mk1 (shut_bool Try.underlying4 _), (trodAll_cons_mk (shut_agg3 Try.underlying23 (by kernel_rfl) (by kernel_rfl) (field_of_Trod (shut_int Try.underlying5 wk0) rfl) (field_of_Trod (shut_int Try.underlying2 wn0) rfl) (field_of_Trod (shut_string Try.underlying9 ws0) rfl)) (trodAll_cons_mk (shut_agg3 Try.underlying23 (by kernel_rfl) (by kernel_rfl) (field_of_Trod (shut_int Try.underlying5 wk1) rfl) (field_of_Trod (shut_int Try.underlying2 wn1) rfl) (field_of_Trod (shut_string Try.underlying9 ws1) rfl)) (trodAll_cons_mk (shut_agg3 Try.underlying23 (by kernel_rfl) (by kernel_rfl) (field_of_Trod (shut_int Try.underlying5 wk2) rfl) (field_of_Trod (shut_int Try.underlying2 wn2) rfl) (field_of_Trod (shut_string Try.underlying9 ws2) rfl)) trodAll_mk0))), rfl, bel.frame _, fun h => by cases h⟩
theorem over : Rows.valueOrderRow.holds Try.pinned (OpenSpec.ofChange Rows.valueOrderSpec) :=
  OpenClaim.holds_of_wide 5 Try.f5 rfl rfl rfl rfl rfl rfl rfl ⟨rfl, rfl, rfl, rfl, rfl⟩ rfl rfl rfl rfl rfl (by kernel_rfl) Try.func5 (by kernel_rfl)
    (of_decide_eq_true (by kernel_rfl)) (by unfold Func.isWrapper; first | (rw [if_pos (by decide +kernel)]; kernel_rfl) | (rw [if_neg (by decide +kernel)]; exact ⟨rfl, rfl⟩))
    (fun os started H enc _ => lifted os started H enc)
end Go.Proofs.Ytgkdmccceegifaa.rowValueOrder
namespace Go.Proofs.Ytgkdmccceegifaa
theorem valueOrder_holds : Rows.ValueOrderSaid := rowValueOrder.over
#print axioms valueOrder_holds
end Go.Proofs.Ytgkdmccceegifaa
