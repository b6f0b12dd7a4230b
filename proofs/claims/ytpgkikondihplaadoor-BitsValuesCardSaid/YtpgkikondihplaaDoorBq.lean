/- Sets in a region that draws its order and only reads and calls: loads, the empty set, comparisons, as steps of the walk in the text's order. No condition. -/
import Derived.Test.YtpgkikondihplaaDoorBz
import Derived.Lib.QuietBelow
import Derived.BigQuiet
namespace Go.Proofs.YtpgkikondihplaaDoor.Bq
open Go.RowKit Go.Sort Go.Proofs.YtpgkikondihplaaDoor.Bm Go.Proofs.YtpgkikondihplaaDoor.Bb Go.Proofs.YtpgkikondihplaaDoor.Bg Go.Proofs.YtpgkikondihplaaDoor.Bt
set_option linter.unusedVariables false
set_option linter.unusedSimpArgs false
set_option maxRecDepth 100000
section
variable {ops : Array Oper} {rest : List Oper} {o : Oper} {a : Act} {w : World} {Q : Exit → Act → World → Prop}
/-- A set is stored whole: the frame is as it was. -/
theorem stN (x y : Operand) (ho : o.op = .store 25 x y) (hd : o.dst = none) (hw : Region.wanted o (yielded ops a.tmps) = true) (g : Nat) (hx : a.eval x = .pointer (some ⟨g, 0, none⟩)) (t : Nat → Nat) (hy : a.eval y = .agg (row t)) (s : Nat → Nat) (hg : Row g s w)
    (h : ∀ w1, Row g t w1 → Upd g w w1 → wpList Tryd.prog ops Q rest a w1) : wpList Tryd.prog ops Q (o :: rest) a w :=
  st x y ho hw g hx t hy s hg (fun w1 h1 h2 => by rw [hd]; exact h w1 h1 h2)
end
section
variable {ops : Array Oper} {o : Oper} {a : Act} {w : World} {K : Act → World → Prop} {Q : Exit → Act → World → Prop} {E : Prop}
/-- A comparison, as a step of a region that draws its order. -/
theorem neR (x y : Operand) (ho : o.op = .binOp .neq 25 x y 25) (hw : Region.wanted o (yielded ops a.tmps) = true) (s t : Nat → Nat) (hx : a.eval x = .agg (row s)) (hy : a.eval y = .agg (row t)) (b : Bool) (he : (!eqB s t) = b)
    (h : K (a.put o.dst (.bool b)) w) : if Region.wanted o (yielded ops a.tmps) = true then Oper.wp Tryd.prog o a w K Q else E := by
  rw [if_pos hw]
  subst he
  unfold Oper.wp execOp
  simp only [ho, hx, hy, Sem.run_bind, run_eqGuard_agg _ _ _ _ _ _ _ Tryd.eqGuardType25, run_neq_struct, run_eqS 9998 s t w, Result.andThen_ok, Sem.run_pure]
  exact h
theorem eqR (x y : Operand) (ho : o.op = .binOp .eql 25 x y 25) (hw : Region.wanted o (yielded ops a.tmps) = true) (s t : Nat → Nat) (hx : a.eval x = .agg (row s)) (hy : a.eval y = .agg (row t)) (b : Bool) (he : eqB s t = b)
    (h : K (a.put o.dst (.bool b)) w) : if Region.wanted o (yielded ops a.tmps) = true then Oper.wp Tryd.prog o a w K Q else E := by
  rw [if_pos hw]
  subst he
  unfold Oper.wp execOp
  simp only [ho, hx, hy, Sem.run_bind, run_eqGuard_agg _ _ _ _ _ _ _ Tryd.eqGuardType25, run_eql_struct, run_eqS 9998 s t w, Result.andThen_ok, Sem.run_pure]
  exact h
end
section
variable {ops : Array Oper} {rest : List Oper} {o : Oper} {a : Act} {W : World} {Q : Act → Prop}
theorem qld (x : Operand) (ho : o.op = .load 25 x) (hw : Region.wanted o (yielded ops a.tmps) = true) (g : Nat) (hx : a.eval x = .pointer (some ⟨g, 0, none⟩)) (s : Nat → Nat) (hg : Row g s W)
    (h : wpQuiet Tryd.prog ops (fun w' => ∃ p : Regrown, w' = grow (redrawn W p.d) p.os) Q rest (a.put o.dst (.agg (row s)))) : wpQuiet Tryd.prog ops (fun w' => ∃ p : Regrown, w' = grow (redrawn W p.d) p.os) Q (o :: rest) a := by
  unfold wpQuiet
  rw [if_pos hw]
  refine ⟨_, ?_, h⟩
  rintro w1 ⟨p, rfl⟩
  have hr : Row g s (grow (redrawn W p.d) p.os) := hg.on (below_regrown W p.d p.os)
  unfold Oper.quietAt execOp
  simp only [ho, hx, Instr.loadAt, Instr.sureAddr, Sem.run_bind, Sem.run_pure, Result.andThen_ok, run_loadVar_row _ g _ _ _ _ _ hr Tryd.underlying25 rfl info25]
  exact ⟨rfl, rfl⟩
theorem qbld (ho : o.op = .build 25 #[]) (hw : Region.wanted o (yielded ops a.tmps) = true)
    (h : wpQuiet Tryd.prog ops (fun w' => ∃ p : Regrown, w' = grow (redrawn W p.d) p.os) Q rest (a.put o.dst (.agg (row zeroS)))) : wpQuiet Tryd.prog ops (fun w' => ∃ p : Regrown, w' = grow (redrawn W p.d) p.os) Q (o :: rest) a := by
  unfold wpQuiet
  rw [if_pos hw]
  refine ⟨_, ?_, h⟩
  rintro w1 ⟨p, rfl⟩
  unfold Oper.quietAt execOp
  have hc : Tryd.prog.built 25 ((#[] : Array (Nat × Operand)).map fun (i, x) => (i, a.eval x)).toList = some (row zeroS) := by simp [zero_built]
  simp only [ho, Sem.run_bind, Sem.run_pure, run_build _ _ _ _ hc, Result.andThen_ok]
  exact ⟨rfl, rfl⟩
theorem qeq (x y : Operand) (ho : o.op = .binOp .eql 25 x y 25) (hw : Region.wanted o (yielded ops a.tmps) = true) (s t : Nat → Nat) (hx : a.eval x = .agg (row s)) (hy : a.eval y = .agg (row t)) (b : Bool) (he : eqB s t = b)
    (h : wpQuiet Tryd.prog ops (fun w' => ∃ p : Regrown, w' = grow (redrawn W p.d) p.os) Q rest (a.put o.dst (.bool b))) : wpQuiet Tryd.prog ops (fun w' => ∃ p : Regrown, w' = grow (redrawn W p.d) p.os) Q (o :: rest) a := by
  subst he
  unfold wpQuiet
  rw [if_pos hw]
  refine ⟨_, ?_, h⟩
  rintro w1 ⟨p, rfl⟩
  unfold Oper.quietAt execOp
  simp only [ho, hx, hy, Sem.run_bind, run_eqGuard_agg _ _ _ _ _ _ _ Tryd.eqGuardType25, run_eql_struct, run_eqS 9998 s t _, Result.andThen_ok, Sem.run_pure]
  exact ⟨rfl, rfl⟩
theorem qne (x y : Operand) (ho : o.op = .binOp .neq 25 x y 25) (hw : Region.wanted o (yielded ops a.tmps) = true) (s t : Nat → Nat) (hx : a.eval x = .agg (row s)) (hy : a.eval y = .agg (row t)) (b : Bool) (he : (!eqB s t) = b)
    (h : wpQuiet Tryd.prog ops (fun w' => ∃ p : Regrown, w' = grow (redrawn W p.d) p.os) Q rest (a.put o.dst (.bool b))) : wpQuiet Tryd.prog ops (fun w' => ∃ p : Regrown, w' = grow (redrawn W p.d) p.os) Q (o :: rest) a := by
  subst he
  unfold wpQuiet
  rw [if_pos hw]
  refine ⟨_, ?_, h⟩
  rintro w1 ⟨p, rfl⟩
  unfold Oper.quietAt execOp
  simp only [ho, hx, hy, Sem.run_bind, run_eqGuard_agg _ _ _ _ _ _ _ Tryd.eqGuardType25, run_neq_struct, run_eqS 9998 s t _, Result.andThen_ok, Sem.run_pure]
  exact ⟨rfl, rfl⟩
theorem qeqT (x y : Operand) (ho : o.op = .binOp .eql 25 x y 25) (hw : Region.wanted o (yielded ops a.tmps) = true) (s t : Nat → Nat) (hx : a.eval x = .agg (row s)) (hy : a.eval y = .agg (row t)) (he : SameS s t)
    (h : wpQuiet Tryd.prog ops (fun w' => ∃ p : Regrown, w' = grow (redrawn W p.d) p.os) Q rest (a.put o.dst (.bool true))) : wpQuiet Tryd.prog ops (fun w' => ∃ p : Regrown, w' = grow (redrawn W p.d) p.os) Q (o :: rest) a :=
  qeq x y ho hw s t hx hy true ((eqB_iff s t).2 he) h
theorem Tab.regrown {w : World} (h : Tab w) (d : Nat) (os : Array Obj) : Tab (grow (redrawn w d) os) := h.on (below_regrown w d os)
end
section
variable {ops : Array Oper} {o : Oper} {a : Act} {w : World} {K : Act → World → Prop} {Q : Exit → Act → World → Prop} {E : Prop}
/-- The same steps, the slot that is written said by the caller. -/
theorem ldRD (d : Tmp) (x : Operand) (ho : o.op = .load 25 x) (hd : o.dst = some d) (hw : Region.wanted o (yielded ops a.tmps) = true) (g : Nat) (hx : a.eval x = .pointer (some ⟨g, 0, none⟩)) (s : Nat → Nat) (hg : Row g s w)
    (h : K (a.put (some d) (.agg (row s))) w) : if Region.wanted o (yielded ops a.tmps) = true then Oper.wp Tryd.prog o a w K Q else E := by
  rw [← hd] at h; exact ldR x ho hw g hx s hg h
theorem neRD (d : Tmp) (x y : Operand) (ho : o.op = .binOp .neq 25 x y 25) (hd : o.dst = some d) (hw : Region.wanted o (yielded ops a.tmps) = true) (s t : Nat → Nat) (hx : a.eval x = .agg (row s)) (hy : a.eval y = .agg (row t)) (b : Bool) (he : (!eqB s t) = b)
    (h : K (a.put (some d) (.bool b)) w) : if Region.wanted o (yielded ops a.tmps) = true then Oper.wp Tryd.prog o a w K Q else E := by
  rw [← hd] at h; exact neR x y ho hw s t hx hy b he h
theorem eqRD (d : Tmp) (x y : Operand) (ho : o.op = .binOp .eql 25 x y 25) (hd : o.dst = some d) (hw : Region.wanted o (yielded ops a.tmps) = true) (s t : Nat → Nat) (hx : a.eval x = .agg (row s)) (hy : a.eval y = .agg (row t)) (b : Bool) (he : eqB s t = b)
    (h : K (a.put (some d) (.bool b)) w) : if Region.wanted o (yielded ops a.tmps) = true then Oper.wp Tryd.prog o a w K Q else E := by
  rw [← hd] at h; exact eqR x y ho hw s t hx hy b he h
end
end Go.Proofs.YtpgkikondihplaaDoor.Bq
