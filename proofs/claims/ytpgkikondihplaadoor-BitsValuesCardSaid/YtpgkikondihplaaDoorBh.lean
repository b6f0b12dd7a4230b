/- Regions that draw their order, under facts that hold behind every step: what is taken first. No condition. -/
import Derived.Test.YtpgkikondihplaaDoorBq
import Derived.Deep.RegionHeld
namespace Go.Proofs.YtpgkikondihplaaDoor.Bh
open Go.RowKit Go.Proofs.YtpgkikondihplaaDoor.Bm Go.Proofs.YtpgkikondihplaaDoor.Bb Go.Proofs.YtpgkikondihplaaDoor.Bg
set_option linter.unusedVariables false
set_option linter.unusedSimpArgs false
set_option maxRecDepth 100000
theorem Row.keep {g B : Nat} {s : Nat → Nat} {w w1 : World} (h : Row g s w) (hb : Below B w w1) (hg : g < B) : Row g s w1 := (hb.block g hg).trans h
section
variable {ops : Array Oper} {Q : Exit → Act → World → Prop} {md : Region.Mode} {S : World → Prop}
/-- Number i first; the slot that it writes said by the caller. -/
theorem takeD {i : Nat} {oi : Oper} (d : Option Tmp) {v : Value} {fuel : Nat} {listed : Array Bool} {a : Act} {w : World} (hi : ops[i]? = some oi) (hd : oi.dst = d)
    (hs : Region.noSelect ops = true) (hf : Region.free md ops listed i = true) (hr : (Region.ready md ops listed).contains i = true)
    (hQ : ∀ c a w, Q (.panic c) (a.put d v) w → Q (.panic c) a w) (hy : YieldsIf Tryd.prog ops S oi v a) (hS : S w)
    (h : wpAnyH Tryd.prog md ops Q S fuel (listed.setIfInBounds i true) (a.put d v) w) : wpAnyH Tryd.prog md ops Q S (fuel + 1) listed a w := by
  subst hd
  exact wpAnyH_take hi hs hf hr hQ hy hS h
/-- What runs in whatever world. -/
theorem yAll {o : Oper} {v : Value} {a : Act} (hw : Region.wanted o (yielded ops a.tmps) = true) (h : ∀ w, (execOp a.eval o).run Tryd.prog w = .ok (.value v) w) : YieldsIf Tryd.prog ops S o v a := Or.inl ⟨hw, fun w _ => h w⟩
/-- A whole set's load. -/
theorem yLd {o : Oper} {a : Act} (x : Operand) (ho : o.op = .load 25 x) (hw : Region.wanted o (yielded ops a.tmps) = true) (g : Nat) (hx : a.eval x = .pointer (some ⟨g, 0, none⟩)) (s : Nat → Nat) (hg : ∀ w, S w → Row g s w) : YieldsIf Tryd.prog ops S o (.agg (row s)) a :=
  Or.inl ⟨hw, fun w hS => by
    unfold execOp
    simp only [ho, hx, Instr.loadAt, Instr.sureAddr, Sem.run_bind, Sem.run_pure, Result.andThen_ok, run_loadVar_row _ g _ _ _ _ _ (hg w hS) Tryd.underlying25 rfl info25]⟩
theorem yNe {o : Oper} {a : Act} (x y : Operand) (ho : o.op = .binOp .neq 25 x y 25) (hw : Region.wanted o (yielded ops a.tmps) = true) (s t : Nat → Nat) (hx : a.eval x = .agg (row s)) (hy : a.eval y = .agg (row t)) (b : Bool) (he : (!eqB s t) = b) : YieldsIf Tryd.prog ops S o (.bool b) a :=
  Or.inl ⟨hw, fun w hS => by
    subst he
    unfold execOp
    simp only [ho, hx, hy, Sem.run_bind, run_eqGuard_agg _ _ _ _ _ _ _ Tryd.eqGuardType25, run_neq_struct, run_eqS 9998 s t w, Result.andThen_ok, Sem.run_pure]⟩
theorem yEq {o : Oper} {a : Act} (x y : Operand) (ho : o.op = .binOp .eql 25 x y 25) (hw : Region.wanted o (yielded ops a.tmps) = true) (s t : Nat → Nat) (hx : a.eval x = .agg (row s)) (hy : a.eval y = .agg (row t)) (b : Bool) (he : eqB s t = b) : YieldsIf Tryd.prog ops S o (.bool b) a :=
  Or.inl ⟨hw, fun w hS => by
    subst he
    unfold execOp
    simp only [ho, hx, hy, Sem.run_bind, run_eqGuard_agg _ _ _ _ _ _ _ Tryd.eqGuardType25, run_eql_struct, run_eqS 9998 s t w, Result.andThen_ok, Sem.run_pure]⟩
theorem yBld {o : Oper} {a : Act} (ho : o.op = .build 25 #[]) (hw : Region.wanted o (yielded ops a.tmps) = true) : YieldsIf Tryd.prog ops S o (.agg (row zeroS)) a :=
  Or.inl ⟨hw, fun w hS => by
    have hc : Tryd.prog.built 25 ((#[] : Array (Nat × Operand)).map fun (i, x) => (i, a.eval x)).toList = some (row zeroS) := by simp [zero_built]
    unfold execOp
    simp only [ho, Sem.run_bind, Sem.run_pure, run_build _ _ _ _ hc, Result.andThen_ok]⟩
theorem ySkip {o : Oper} {a : Act} (hw : Region.wanted o (yielded ops a.tmps) = false) : YieldsIf Tryd.prog ops S o undef a := Or.inr ⟨hw, rfl⟩
end
end Go.Proofs.YtpgkikondihplaaDoor.Bh
