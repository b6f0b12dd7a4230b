/- WireApart: the row of the law over its walk (YtijhdnpaeliaoaaLawWireApart). The arguments are opened, the walk is called, they are shut again. No condition of our own. -/
import Derived.Test.YtijhdnpaeliaoaaRows
import Derived.Test.YtijhdnpaeliaoaaLawWireApart
import Derived.WalkKit
import Derived.ProofKit
import Derived.OpenShut
import Derived.ShutString
import Derived.ChangeOld
import Derived.Below
import Derived.SizedLaws
import Derived.Lib.SmallJoins
namespace Go.Proofs.Ytijhdnpaeliaoaa.rowWireApart
open Go.ChangeShapes Go.WideShapes Go.ChangeAt Go.RowKit
open Go.ChangeMaps (open_string shut_string)
open Go.Joins
set_option linter.unusedVariables false
theorem own : ownKnob Try.prog.godebug = none := by kernel_rfl
set_option maxRecDepth 100000 in
theorem lifted (os : Os) (started : os.Started) (H : Type) (enc : TypeId × Value → H) :
    ReturnsInHanded {} Try.checked os 4 .any (Rows.wireApartSpec.pre6 enc Try.prog Try.f4 Rows.wireApartRow.domain false) (Rows.wireApartSpec.post enc Try.prog Try.f4 false true false false) := by
  refine returnsInHanded_of_change_sized (C := Try.checked) own started (by kernel_rfl) Try.func4
    (ChangeSpec.witness6 (enc := enc) (C := Try.checked) false ⟨#[], #[.int .i64 0, .int .i64 0, .string ByteArray.empty, .string ByteArray.empty, .agg #[.int .u8 0, .int .i64 0, .string ByteArray.empty], .agg #[.int .u8 0, .int .i64 0, .string ByteArray.empty]], []⟩ 8 (by kernel_rfl) (by kernel_rfl) (by kernel_rfl) (by kernel_rfl)) ?_
  intro W base args ds gs before hval0 hW hcnd hsz0 _
  have hsz : (DataW.weightsEach Try.prog (Try.f4.params.toList ++ Rows.wireApartSpec.plain.varTypes Try.prog) (ds ++ gs)).all (· ≤ reachBytes) = true := hsz0
  have hval : ∀ (j : Nat) t v, Try.f4.params[j]? = some t → args[j]? = some v → Value.okWide Try.prog W .any base t v := hval0
  have hW' := hW
  obtain ⟨p, q, hA0, hV, rfl, hfz, hnd⟩ := hW
  have hA : DataW.TrodAll enc Try.prog W 0 (fun _ => true) true Try.f4.params.toList args.toList ds p := hA0
  rw [Try.params4] at hA hval hsz
  obtain ⟨v0, vs0, d0, ds0, p0, q0, hargs, rfl, rfl, h0, r0⟩ := trodAll_cons hA
  obtain ⟨v1, vs1, d1, ds1, p1, q1, rfl, rfl, rfl, h1, r1⟩ := trodAll_cons r0
  obtain ⟨v2, vs2, d2, ds2, p2, q2, rfl, rfl, rfl, h2, r2⟩ := trodAll_cons r1
  obtain ⟨v3, vs3, d3, ds3, p3, q3, rfl, rfl, rfl, h3, r3⟩ := trodAll_cons r2
  obtain ⟨v4, vs4, d4, ds4, p4, q4, rfl, rfl, rfl, h4, r4⟩ := trodAll_cons r3
  obtain ⟨v5, vs5, d5, ds5, p5, q5, rfl, rfl, rfl, h5, r5⟩ := trodAll_cons r4
  obtain ⟨rfl, rfl, rfl⟩ := trodAll_nil r5
  obtain rfl : args = #[v0, v1, v2, v3, v4, v5] := by cases args; simp_all
  obtain ⟨rfl, rfl⟩ := trodVars_none hV
  obtain ⟨a0, rfl, rfl, rfl, w0⟩ := open_int Try.underlying2 (hval 0 2 v0 rfl rfl) h0
  obtain ⟨a1, rfl, rfl, rfl, w1⟩ := open_int Try.underlying2 (hval 1 2 v1 rfl rfl) h1
  obtain ⟨a2, rfl, rfl, rfl, y2⟩ := open_string Try.underlying9 (hval 2 9 v2 rfl rfl) h2
  have w2 : a2.size ≤ 140737488351232 := by
    have z := sized_string hsz (j := 2) (t := 9) rfl rfl
    rw [Array.length_toList] at z
    exact z
  obtain ⟨a3, rfl, rfl, rfl, y3⟩ := open_string Try.underlying9 (hval 3 9 v3 rfl rfl) h3
  have w3 : a3.size ≤ 140737488351232 := by
    have z := sized_string hsz (j := 3) (t := 9) rfl rfl
    rw [Array.length_toList] at z
    exact z
  obtain ⟨c4, c4b, c4c, y4, y4b, y4c, m4, rfl, rfl, rfl, hy4, hy4b, hy4c⟩ := open_agg3 Try.underlying23 (by kernel_rfl) (by kernel_rfl) (hval 4 23 v4 rfl rfl) h4
  obtain ⟨a4k, e4, rfl, wk4⟩ := DataW.trod_int Try.underlying5 hy4
  obtain ⟨a4n, e4b, rfl, wn4⟩ := DataW.trod_int Try.underlying2 hy4b
  obtain ⟨a4t, e4c, rfl, ws4⟩ := DataW.trod_string Try.underlying9 hy4c
  simp only [List.cons.injEq, and_true] at e4 e4b e4c
  subst e4 e4b e4c
  obtain ⟨c5, c5b, c5c, y5, y5b, y5c, m5, rfl, rfl, rfl, hy5, hy5b, hy5c⟩ := open_agg3 Try.underlying23 (by kernel_rfl) (by kernel_rfl) (hval 5 23 v5 rfl rfl) h5
  obtain ⟨a5k, e5, rfl, wk5⟩ := DataW.trod_int Try.underlying5 hy5
  obtain ⟨a5n, e5b, rfl, wn5⟩ := DataW.trod_int Try.underlying2 hy5b
  obtain ⟨a5t, e5c, rfl, ws5⟩ := DataW.trod_string Try.underlying9 hy5c
  simp only [List.cons.injEq, and_true] at e5 e5b e5c
  subst e5 e5b e5c
  clear hA0 hval0 hsz0 hsz
  refine (LawWireApart.walkR a0 a1 a2 a3 ⟨a4k, a4n, a4t⟩ ⟨a5k, a5n, a5t⟩ W w0 w1 w2 w3 wk4 wn4 wk5 wn5).mono fun e W' ⟨he, bel⟩ => ?_
  subst he
  exact ⟨_, rfl, _, _, _, [], _, [], hW', trodAll_mk1 (shut_bool Try.underlying4 _), (trodAll_cons_mk (shut_int Try.underlying2 w0) (trodAll_cons_mk (shut_int Try.underlying2 w1) (trodAll_cons_mk (shut_string Try.underlying9 y2) (trodAll_cons_mk (shut_string Try.underlying9 y3) (trodAll_cons_mk (shut_agg3 Try.underlying23 (by kernel_rfl) (by kernel_rfl) (field_of_Trod (shut_int Try.underlying5 wk4) rfl) (field_of_Trod (shut_int Try.underlying2 wn4) rfl) (field_of_Trod (shut_string Try.underlying9 ws4) rfl)) (trodAll_cons_mk (shut_agg3 Try.underlying23 (by kernel_rfl) (by kernel_rfl) (field_of_Trod (shut_int Try.underlying5 wk5) rfl) (field_of_Trod (shut_int Try.underlying2 wn5) rfl) (field_of_Trod (shut_string Try.underlying9 ws5) rfl)) trodAll_mk0)))))), rfl, bel.frame _, fun h => by cases h⟩
theorem over : Rows.wireApartRow.holds Try.pinned (OpenSpec.ofChange Rows.wireApartSpec) :=
  OpenClaim.holds_of_wide 4 Try.f4 rfl rfl rfl rfl rfl rfl rfl ⟨rfl, rfl, rfl, rfl, rfl⟩ rfl rfl rfl rfl rfl (by kernel_rfl) Try.func4 (by kernel_rfl)
    (of_decide_eq_true (by kernel_rfl)) (by unfold Func.isWrapper; first | (rw [if_pos (by decide +kernel)]; kernel_rfl) | (rw [if_neg (by decide +kernel)]; exact ⟨rfl, rfl⟩))
    (fun os started H enc _ => lifted os started H enc)
end Go.Proofs.Ytijhdnpaeliaoaa.rowWireApart
namespace Go.Proofs.Ytijhdnpaeliaoaa
theorem wireApart_holds : Rows.WireApartSaid := rowWireApart.over
#print axioms wireApart_holds
end Go.Proofs.Ytijhdnpaeliaoaa
