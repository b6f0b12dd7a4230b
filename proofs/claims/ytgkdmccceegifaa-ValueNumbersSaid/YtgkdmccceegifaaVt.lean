/- value.Two, as a contract of its call, for any operator and any two values (their Kinds and numbers of the fields' own range are not asked). -/
import Derived.Test.YtgkdmccceegifaaVn5
import Derived.Test.YtgkdmccceegifaaVn6
import Derived.Test.YtgkdmccceegifaaVn7
import Derived.Test.YtgkdmccceegifaaVn8
import Derived.Test.YtgkdmccceegifaaVn15
namespace Go.Proofs.Ytgkdmccceegifaa.Vt
open Go.RowKit Go.Proofs.Ytgkdmccceegifaa.Vm Go.Proofs.Ytgkdmccceegifaa.Va Go.Proofs.Ytgkdmccceegifaa.Vb Go.Proofs.Ytgkdmccceegifaa.Vc
set_option linter.unusedVariables false
set_option linter.unusedSimpArgs false

theorem numbersC (op a b : Int) (h : Five op) (w : World) : Calls Try.prog 20 #[.int .u8 op, .int .i64 a, .int .i64 b] w (NumPost op a b w) := by
  by_cases hz : b = 0 ∧ (op = 6 ∨ op = 7)
  · obtain ⟨rfl, h2⟩ := hz
    refine (zeroC op a h2 w).mono ?_
    rintro e w1 ⟨he, hb⟩
    refine ⟨?_, hb⟩
    have : numbers op a 0 = (V.zero, 21) := by unfold numbers; rw [if_pos ⟨rfl, h2⟩]
    rw [this]
    exact he
  · unfold Five at h
    rcases h with rfl | rfl | rfl | rfl | rfl
    · exact num5C a b w
    · exact num6C a b (by omega) w
    · exact num7C a b (by omega) w
    · exact num8C a b w
    · exact num15C a b w

/-- The boxes of the two values and of the result. -/
structure Hd (w : World) (a b : V) (g4 g5 g6 : Nat) (W : World) : Prop where
  a0 : W.cell? ⟨g4, 0, none⟩ = some (.int .u8 a.k)
  a1 : W.cell? ⟨g4, 1, none⟩ = some (.int .i64 a.n)
  a2 : W.cell? ⟨g4, 2, none⟩ = some (.string a.t)
  b0 : W.cell? ⟨g5, 0, none⟩ = some (.int .u8 b.k)
  b1 : W.cell? ⟨g5, 1, none⟩ = some (.int .i64 b.n)
  b2 : W.cell? ⟨g5, 2, none⟩ = some (.string b.t)
  r0 : W.cell? ⟨g6, 0, none⟩ = some (.int .u8 0)
  r1 : W.cell? ⟨g6, 1, none⟩ = some (.int .i64 0)
  r2 : W.cell? ⟨g6, 2, none⟩ = some (.string ⟨#[]⟩)
  rf : ∀ j, W.frozen? ⟨g6, j, none⟩ = false
  old : w.heap.size ≤ g6
  bel : Below w.heap.size w W
theorem Hd.on {w W w1 : World} {a b : V} {g4 g5 g6 : Nat} (h : Hd w a b g4 g5 g6 W) (hb : Below W.heap.size W w1) : Hd w a b g4 g5 g6 w1 :=
  ⟨cell_on hb h.a0, cell_on hb h.a1, cell_on hb h.a2, cell_on hb h.b0, cell_on hb h.b1, cell_on hb h.b2, cell_on hb h.r0, cell_on hb h.r1, cell_on hb h.r2, frozen_on hb (lt_of_cell h.r0) h.rf, h.old, h.bel.trans (hb.mono h.bel.size)⟩
theorem Hd.fin {w W : World} {a b : V} {g4 g5 g6 : Nat} (h : Hd w a b g4 g5 g6 W) (x y z : Value) : Below w.heap.size w (((W.setCell ⟨g6, 0, none⟩ x).setCell ⟨g6, 1, none⟩ y).setCell ⟨g6, 2, none⟩ z) :=
  ((h.bel.setCell h.old _).setCell h.old _).setCell h.old _
def Bx (w : World) (a b : V) (s4 s5 s6 : Value) (W : World) : Prop :=
  ∃ g4 g5 g6 : Nat, s4 = .pointer (some ⟨g4, 0, none⟩) ∧ s5 = .pointer (some ⟨g5, 0, none⟩) ∧ s6 = .pointer (some ⟨g6, 0, none⟩) ∧ Hd w a b g4 g5 g6 W
def TwoPost (op : Int) (a b : V) (w : World) (e : Ending) (w' : World) : Prop :=
  e = .returned (.tuple #[.agg #[.int .u8 (two op a b).1.k, .int .i64 (two op a b).1.n, .string (two op a b).1.t], .int .i64 (two op a b).2]) ∧ Below w.heap.size w w'
theorem TwoPost.mk {op : Int} {a b : V} {w w' : World} {e : Ending} {r : V × Int} (h : two op a b = r) (he : e = .returned (.tuple #[.agg #[.int .u8 r.1.k, .int .i64 r.1.n, .string r.1.t], .int .i64 r.2])) (hb : Below w.heap.size w w') : TwoPost op a b w e w' := by
  unfold TwoPost
  rw [h]
  exact ⟨he, hb⟩
theorem three2 {x y : Bool} (h : (x || y) = true) : x = true ∨ (x = false ∧ y = true) := by revert h; cases x <;> cases y <;> simp
theorem three3 {x y z : Bool} (h : (x || y || z) = true) : x = true ∨ (x = false ∧ y = true) ∨ (x = false ∧ y = false ∧ z = true) := by revert h; cases x <;> cases y <;> cases z <;> simp
theorem not_texts {a b : V} (h : ints a b = true) : texts a b = false := by
  simp only [ints, texts, Bool.and_eq_true, beq_iff_eq, Bool.and_eq_false_iff, beq_eq_false_iff_ne] at *
  omega
theorem not_ints {a b : V} (h : texts a b = true) : ints a b = false := by
  simp only [ints, texts, Bool.and_eq_true, beq_iff_eq, Bool.and_eq_false_iff, beq_eq_false_iff_ne] at *
  omega
end Go.Proofs.Ytgkdmccceegifaa.Vt
