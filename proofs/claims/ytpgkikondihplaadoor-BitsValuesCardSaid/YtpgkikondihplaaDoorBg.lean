/- Sets compared by ==, and a word of a set by its index: the laws. No condition. -/
import Derived.Test.YtpgkikondihplaaDoorBb
namespace Go.Proofs.YtpgkikondihplaaDoor.Bg
open Go.RowKit Go.Proofs.YtpgkikondihplaaDoor.Bm Go.Proofs.YtpgkikondihplaaDoor.Bb
set_option linter.unusedVariables false
set_option linter.unusedSimpArgs false
set_option maxRecDepth 100000
theorem run_part (s : Nat → Nat) {i : Nat} (hi : i < 16) (w : World) : (part 23 (row s) i).run Tryd.prog w = .ok (.int .u64 (s i : Int)) w := by
  have h := row_at s hi
  unfold part
  simp [go_sem, h]
theorem run_ix (s : Nat → Nat) {i : Nat} (hi : i < 16) (w : World) : (Instr.index 25 (.agg (row s)) (.int .i64 (i : Int))).run Tryd.prog w = .ok (.int .u64 (s i : Int)) w := by
  have h1 : (i : Int) < 16 := by omega
  have h2 : (0 : Int) ≤ (i : Int) := by omega
  simp [Instr.index, asIntOf, go_sem, h1, h2, hi, row_at s hi]
/-- The same words, as a Bool. -/
def eqB (s t : Nat → Nat) : Bool := (List.range 16).all fun i => s i == t i
theorem eqB_iff (s t : Nat → Nat) : eqB s t = true ↔ SameS s t := by
  unfold eqB SameS; simp
theorem run_eqL (d : Nat) (s t : Nat → Nat) (w : World) : ∀ (l : List Nat), (∀ i ∈ l, i < 16) →
    (forIn l ((none, ()) : Option Bool × Unit) fun i (_ : Option Bool × Unit) => do
      let a ← part 23 (row s) (i * 1)
      let b ← part 23 (row t) (i * 1)
      let r ← Op.equalIn (d + 1) 23 a b
      if (!r) = true then pure (ForInStep.done (some false, ())) else pure (ForInStep.yield (none, ()))).run Tryd.prog w = .ok (if (l.all fun i => s i == t i) then (none, ()) else (some false, ())) w := by
  intro l
  induction l with
  | nil => intro _; simp
  | cons i l ih =>
    intro h
    have hi := h i (by simp)
    have ih' := ih (fun j hj => h j (by simp [hj]))
    simp only [List.forIn_cons, Sem.run_bind, Nat.mul_one] at ih' ⊢
    rw [run_part s hi w]
    simp only [Result.andThen_ok]
    rw [run_part t hi w]
    simp only [Result.andThen_ok]
    rw [run_equalIn_int w d 23 .u64 .u64 _ _ Tryd.underlying23]
    simp only [Result.andThen_ok]
    cases e : ((s i : Int) == (t i : Int))
    · have e' : (s i == t i) = false := by simp at e ⊢; omega
      simp [e']
    · have e' : (s i == t i) = true := by simp at e ⊢; omega
      simp only [Bool.not_true, Bool.false_eq_true, if_false, Sem.run_pure, Result.andThen_ok, List.all_cons, e', Bool.true_and]
      exact ih'
theorem run_eqS (d : Nat) (s t : Nat → Nat) (w : World) : (Op.equalIn (d + 2) 25 (.agg (row s)) (.agg (row t))).run Tryd.prog w = .ok (eqB s t) w := by
  rw [Op.equalIn]
  simp only [Sem.run_bind, Tryd.runUnderlying25, Tryd.sizeOf23, Result.andThen_ok]
  rw [Std.Legacy.Range.forIn_eq_forIn_range']
  have := run_eqL d s t w (List.range' 0 16) (fun i hi => by simp [List.mem_range'] at hi; omega)
  rw [show ([:16] : Std.Legacy.Range).start = 0 from rfl, show ([:16] : Std.Legacy.Range).size = 16 from rfl, show ([:16] : Std.Legacy.Range).step = 1 from rfl]
  rw [this]
  have hb : ((List.range' 0 16).all fun i => s i == t i) = eqB s t := by rfl
  rw [hb]
  cases eqB s t <;> simp

section
variable {ops : Array Oper} {rest : List Oper} {o : Oper} {a : Act} {w : World} {Q : Exit → Act → World → Prop}
theorem ix (x y : Operand) (ho : o.op = .index 25 x y) (hw : Region.wanted o (yielded ops a.tmps) = true) (s : Nat → Nat) (hx : a.eval x = .agg (row s)) (i : Nat) (hy : a.eval y = .int .i64 (i : Int)) (hi : i < 16)
    (h : wpList Tryd.prog ops Q rest (a.put o.dst (.int .u64 (s i : Int))) w) : wpList Tryd.prog ops Q (o :: rest) a w :=
  BigFrame.wpList_want hw fun _ hK => by
    unfold Oper.wp execOp
    simp only [ho, hx, hy, Sem.run_bind, run_ix s hi w, Result.andThen_ok, Sem.run_pure]
    exact hK _ _ h
theorem eqO (x y : Operand) (ho : o.op = .binOp .eql 25 x y 25) (hw : Region.wanted o (yielded ops a.tmps) = true) (s t : Nat → Nat) (hx : a.eval x = .agg (row s)) (hy : a.eval y = .agg (row t))
    (h : wpList Tryd.prog ops Q rest (a.put o.dst (.bool (eqB s t))) w) : wpList Tryd.prog ops Q (o :: rest) a w :=
  BigFrame.wpList_want hw fun _ hK => by
    unfold Oper.wp execOp
    simp only [ho, hx, hy, Sem.run_bind, run_eqGuard_agg _ _ _ _ _ _ _ Tryd.eqGuardType25, run_eql_struct, run_eqS 9998 s t w, Result.andThen_ok, Sem.run_pure]
    exact hK _ _ h
theorem neO (x y : Operand) (ho : o.op = .binOp .neq 25 x y 25) (hw : Region.wanted o (yielded ops a.tmps) = true) (s t : Nat → Nat) (hx : a.eval x = .agg (row s)) (hy : a.eval y = .agg (row t))
    (h : wpList Tryd.prog ops Q rest (a.put o.dst (.bool (!eqB s t))) w) : wpList Tryd.prog ops Q (o :: rest) a w :=
  BigFrame.wpList_want hw fun _ hK => by
    unfold Oper.wp execOp
    simp only [ho, hx, hy, Sem.run_bind, run_eqGuard_agg _ _ _ _ _ _ _ Tryd.eqGuardType25, run_neq_struct, run_eqS 9998 s t w, Result.andThen_ok, Sem.run_pure]
    exact hK _ _ h
end
end Go.Proofs.YtpgkikondihplaaDoor.Bg
