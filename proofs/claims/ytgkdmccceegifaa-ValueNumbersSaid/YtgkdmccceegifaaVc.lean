/- value.numbers, as a contract of its call, at each operator of numbers. Condition: the operator is one of the five. -/
import Derived.Test.YtgkdmccceegifaaVb
import Derived.Laws.EntriesVeiled
import Derived.Deep.DeepCutAuto
namespace Go.Proofs.Ytgkdmccceegifaa.Vc
open Go.RowKit Go.Proofs.Ytgkdmccceegifaa.Vm Go.Proofs.Ytgkdmccceegifaa.Va Go.Proofs.Ytgkdmccceegifaa.Vb
set_option linter.unusedVariables false
set_option linter.unusedSimpArgs false

def Five (op : Int) : Prop := op = 5 ∨ op = 6 ∨ op = 7 ∨ op = 8 ∨ op = 15
/-- Refused: by 0. -/
theorem zeroC (op a : Int) (h : op = 6 ∨ op = 7) (w : World) : Calls Try.prog 20 #[.int .u8 op, .int .i64 a, .int .i64 0] w fun e w' => e = .returned (.tuple #[.agg #[.int .u8 0, .int .i64 0, .string ⟨#[]⟩], .int .i64 21]) ∧ Below w.heap.size w w' := by
  rcases h with rfl | rfl
  all_goals
    go_enter Try.func20, Try.ntmps20
    go_wp2
    go_returns
    exact ⟨rfl, by (repeat' (first | (with_reducible exact Below.refl _ _) | (with_reducible assumption) | (with_reducible refine Below.alloc ?_ ?_ _) | (with_reducible refine Below.drew ?_) | (with_reducible refine below_drewN ?_ _) | (with_reducible refine Below.setCell ?_ ?_ _) | (with_reducible refine Below.trans ?_ (Below.mono (by with_reducible assumption) ?_)) | (simp only [World.size_alloc, World.size_setCell, World.heap_drewN, World.size_drew]; omega) | omega | (simp; omega) | (simp; done)))⟩
def NumPost (op a b : Int) (w : World) (e : Ending) (w' : World) : Prop :=
  e = .returned (.tuple #[.agg #[.int .u8 (numbers op a b).1.k, .int .i64 (numbers op a b).1.n, .string (numbers op a b).1.t], .int .i64 (numbers op a b).2]) ∧ Below w.heap.size w w'
theorem NumPost.ok {op a b : Int} {w w' : World} (h : ¬ (b = 0 ∧ (op = 6 ∨ op = 7))) (ho : (opn op a b).2 = true) {e : Ending} (he : e = .returned (.tuple #[.agg #[.int .u8 1, .int .i64 (opn op a b).1, .string ⟨#[]⟩], .int .i64 0])) (hb : Below w.heap.size w w') : NumPost op a b w e w' := by
  have : numbers op a b = (num (opn op a b).1, 0) := by unfold numbers; rw [if_neg h, if_pos ho]
  unfold NumPost
  rw [this]
  exact ⟨he, hb⟩
theorem NumPost.no {op a b : Int} {w w' : World} (h : ¬ (b = 0 ∧ (op = 6 ∨ op = 7))) (ho : (opn op a b).2 = false) {e : Ending} (he : e = .returned (.tuple #[.agg #[.int .u8 0, .int .i64 0, .string ⟨#[]⟩], .int .i64 20])) (hb : Below w.heap.size w w') : NumPost op a b w e w' := by
  have : numbers op a b = (V.zero, 20) := by unfold numbers; rw [if_neg h, if_neg (by rw [ho]; decide)]
  unfold NumPost
  rw [this]
  exact ⟨he, hb⟩
/-! numbers at each operator -/
def Held (w : World) (a b : Int) (s4 s5 s6 s8 : Value) (W : World) : Prop :=
  ∃ g4 g5 g6 g8 : Nat, s4 = .pointer (some ⟨g4, 0, none⟩) ∧ s5 = .pointer (some ⟨g5, 0, none⟩) ∧ s6 = .pointer (some ⟨g6, 0, none⟩) ∧ s8 = .pointer (some ⟨g8, 0, none⟩) ∧
    W.cell? ⟨g4, 0, none⟩ = some (.int .i64 a) ∧ W.cell? ⟨g5, 0, none⟩ = some (.int .i64 b) ∧ W.cell? ⟨g8, 0, none⟩ = some (.bool (whole a b)) ∧
    W.cell? ⟨g6, 0, none⟩ = some (.int .u8 0) ∧ W.cell? ⟨g6, 1, none⟩ = some (.int .i64 0) ∧ W.cell? ⟨g6, 2, none⟩ = some (.string ⟨#[]⟩) ∧
    (∀ j, W.frozen? ⟨g6, j, none⟩ = false) ∧ w.heap.size ≤ g6 ∧ Below w.heap.size w W
theorem lt_of_cell {W : World} {a : Addr} {v : Value} (h : W.cell? a = some v) : a.block < W.heap.size := block_lt_of_cell h
theorem cell_on {W w1 : World} (hb : Below W.heap.size W w1) {a : Addr} {v : Value} (h : W.cell? a = some v) : w1.cell? a = some v := (hb.cell (block_lt_of_cell h)).trans h
theorem al {W : World} {a : Addr} {v : Value} {o : Obj} (h : W.cell? a = some v) : (W.alloc o).cell? a = some v := by
  rw [World.cell?_alloc_lt W o a (block_lt_of_cell h)]; exact h
theorem frozen_on {W w1 : World} (hb : Below W.heap.size W w1) {g : Nat} (hg : g < W.heap.size) (h : ∀ j, W.frozen? ⟨g, j, none⟩ = false) : ∀ j, w1.frozen? ⟨g, j, none⟩ = false := fun j => (hb.frozen (p := ⟨g, j, none⟩) hg).trans (h j)
end Go.Proofs.Ytgkdmccceegifaa.Vc
