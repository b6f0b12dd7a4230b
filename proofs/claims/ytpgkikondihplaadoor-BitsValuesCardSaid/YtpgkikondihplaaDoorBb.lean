/- Sets as whole rows of sixteen words: the laws by which a walk loads, stores, indexes and compares them. No condition but that each word is a word. -/
import Derived.Test.YtpgkikondihplaaDoorBa
import Derived.Test.YtpgkikondihplaaDoorBm
import Derived.Deep.WholeRow
namespace Go.Proofs.YtpgkikondihplaaDoor.Bb
open Go.RowKit Go.Proofs.YtpgkikondihplaaDoor.Ba Go.Proofs.YtpgkikondihplaaDoor.Bm
set_option linter.unusedVariables false
set_option linter.unusedSimpArgs false
set_option maxRecDepth 100000
/-- A set's cells. -/
def row (s : Nat → Nat) : Array Value := #[.int .u64 (s 0 : Int), .int .u64 (s 1 : Int), .int .u64 (s 2 : Int), .int .u64 (s 3 : Int), .int .u64 (s 4 : Int), .int .u64 (s 5 : Int), .int .u64 (s 6 : Int), .int .u64 (s 7 : Int), .int .u64 (s 8 : Int), .int .u64 (s 9 : Int), .int .u64 (s 10 : Int), .int .u64 (s 11 : Int), .int .u64 (s 12 : Int), .int .u64 (s 13 : Int), .int .u64 (s 14 : Int), .int .u64 (s 15 : Int)]
theorem row_size (s : Nat → Nat) : (row s).size = 16 := rfl
theorem cases16 {i : Nat} (h : i < 16) : i = 0 ∨ i = 1 ∨ i = 2 ∨ i = 3 ∨ i = 4 ∨ i = 5 ∨ i = 6 ∨ i = 7 ∨ i = 8 ∨ i = 9 ∨ i = 10 ∨ i = 11 ∨ i = 12 ∨ i = 13 ∨ i = 14 ∨ i = 15 := by omega
theorem row_at (s : Nat → Nat) {i : Nat} (h : i < 16) : (row s)[i]? = some (.int .u64 (s i : Int)) := by
  rcases cases16 h with rfl | rfl | rfl | rfl | rfl | rfl | rfl | rfl | rfl | rfl | rfl | rfl | rfl | rfl | rfl | rfl <;> rfl
theorem row_one (s : Nat → Nat) : (row s).all (·.oneCell') = true := by simp [row, Value.oneCell']
/-- The same words. -/
def SameS (s t : Nat → Nat) : Prop := ∀ i, i < 16 → s i = t i
theorem row_same {s t : Nat → Nat} (h : SameS s t) : row s = row t := by
  unfold row
  rw [h 0 (by decide), h 1 (by decide), h 2 (by decide), h 3 (by decide), h 4 (by decide), h 5 (by decide), h 6 (by decide), h 7 (by decide), h 8 (by decide), h 9 (by decide), h 10 (by decide), h 11 (by decide), h 12 (by decide), h 13 (by decide), h 14 (by decide), h 15 (by decide)]
theorem row_set (s t : Nat → Nat) {i x : Nat} (hi : i < 16) (hx : t i = x) (ho : ∀ j, j ≠ i → t j = s j) : (row s).setIfInBounds i (.int .u64 (x : Int)) = row t := by
  apply Array.ext_getElem?
  intro j
  rw [Array.getElem?_setIfInBounds, row_size]
  by_cases h : i = j
  · subst h; rw [if_pos rfl, if_pos hi, row_at t hi, hx]
  · rw [if_neg h]
    by_cases hj : j < 16
    · rw [row_at s hj, row_at t hj, ho j (fun e => h e.symm)]
    · rw [Array.getElem?_eq_none (by rw [row_size]; omega), Array.getElem?_eq_none (by rw [row_size]; omega)]
theorem info25 : (Tryd.prog.info? 25).map (·.size) = some 16 := by kernel_rfl
/-- Block g is the set, whole. -/
def Row (g : Nat) (s : Nat → Nat) (w : World) : Prop := w.heap[g]? = some (.cells (row s) 25 (0, 0))
theorem Row.lt {g : Nat} {s : Nat → Nat} {w : World} (h : Row g s w) : g < w.heap.size := (Array.getElem?_eq_some_iff.1 h).1
theorem Row.on {g : Nat} {s : Nat → Nat} {w w1 : World} (h : Row g s w) (hb : Below w.heap.size w w1) : Row g s w1 := (hb.block g h.lt).trans h
theorem Row.new (s : Nat → Nat) (w : World) : Row w.heap.size s (w.alloc (.cells (row s) 25)) := heap_alloc_last _ _
theorem Row.alloc {g : Nat} {s : Nat → Nat} {w : World} (h : Row g s w) (o : Obj) : Row g s (w.alloc o) := (Below.heap_alloc w o g h.lt).trans h
theorem Row.cell {g : Nat} {s : Nat → Nat} {w : World} (h : Row g s w) {i : Nat} (hi : i < 16) : w.cell? ⟨g, i, none⟩ = some (.int .u64 (s i : Int)) := (cell_of_row w g i _ _ _ h).trans (row_at s hi)
theorem Row.free {g : Nat} {s : Nat → Nat} {w : World} (h : Row g s w) (i : Nat) : w.frozen? ⟨g, i, none⟩ = false := frozen_of_row w g i _ _ h
theorem Row.set {g i x : Nat} {s : Nat → Nat} {w : World} (h : Row g s w) (t : Nat → Nat) (hi : i < 16) (hx : t i = x) (ho : ∀ j, j ≠ i → t j = s j) : Row g t (w.setCell ⟨g, i, none⟩ (.int .u64 (x : Int))) := by
  unfold Row
  rw [heap_setCell_same w g i (row s) _ _ h, row_set s t hi hx ho]
theorem Row.other {g : Nat} {s : Nat → Nat} {w : World} (h : Row g s w) (a : Addr) (v : Value) (ha : g ≠ a.block) : Row g s (w.setCell a v) := (heap_setCell_other w a g v ha).trans h
/-- One block has been written whole. -/
structure Upd (g : Nat) (w w1 : World) : Prop where
  os : w1.os = w.os
  tape : w1.tape = w.tape
  output : w1.output = w.output
  size : w1.heap.size = w.heap.size
  block : ∀ k, k ≠ g → w1.heap[k]? = w.heap[k]?
theorem Upd.below {g B : Nat} {a w w1 : World} (h : Upd g w w1) (hb : Below B a w) (hg : B ≤ g) : Below B a w1 := hb.trans ⟨h.os, h.tape, h.output, Nat.le_of_eq h.size.symm, fun k hk => h.block k (by omega)⟩
theorem Upd.row {g k : Nat} {s : Nat → Nat} {w w1 : World} (h : Upd g w w1) (hr : Row k s w) (hk : k ≠ g) : Row k s w1 := (h.block k hk).trans hr
theorem upd_setRow {g : Nat} {w : World} (c : Array Value) : Upd g w (w.setRow g c) := ⟨rfl, rfl, rfl, by simp, fun k hk => setRow_other w g k c hk⟩
section
variable {ops : Array Oper} {rest : List Oper} {o : Oper} {a : Act} {w : World} {Q : Exit → Act → World → Prop}
/-- A set is loaded whole. -/
theorem ld (x : Operand) (ho : o.op = .load 25 x) (hw : Region.wanted o (yielded ops a.tmps) = true) (g : Nat) (hx : a.eval x = .pointer (some ⟨g, 0, none⟩)) (s : Nat → Nat) (hg : Row g s w)
    (h : wpList Tryd.prog ops Q rest (a.put o.dst (.agg (row s))) w) : wpList Tryd.prog ops Q (o :: rest) a w :=
  BigFrame.wpList_want hw fun _ hK => wp_load_row _ x ho g hx _ (row s) _ _ hg Tryd.underlying25 rfl info25 (hK _ _ h)
/-- A set is stored whole. -/
theorem st (x y : Operand) (ho : o.op = .store 25 x y) (hw : Region.wanted o (yielded ops a.tmps) = true) (g : Nat) (hx : a.eval x = .pointer (some ⟨g, 0, none⟩)) (t : Nat → Nat) (hy : a.eval y = .agg (row t)) (s : Nat → Nat) (hg : Row g s w)
    (h : ∀ w1, Row g t w1 → Upd g w w1 → wpList Tryd.prog ops Q rest (a.put o.dst undef) w1) : wpList Tryd.prog ops Q (o :: rest) a w :=
  BigFrame.wpList_want hw fun _ hK => wp_store_row _ x y ho g (row t) hx hy _ (row s) hg info25 rfl (row_one t) (hK _ _ (h _ (setRow_heap w g _ _ _ _ hg) (upd_setRow _)))
/-- The same, as steps of a region that draws its order. -/
theorem ldR {K : Act → World → Prop} {E : Prop} (x : Operand) (ho : o.op = .load 25 x) (hw : Region.wanted o (yielded ops a.tmps) = true) (g : Nat) (hx : a.eval x = .pointer (some ⟨g, 0, none⟩)) (s : Nat → Nat) (hg : Row g s w)
    (h : K (a.put o.dst (.agg (row s))) w) : if Region.wanted o (yielded ops a.tmps) = true then Oper.wp Tryd.prog o a w K Q else E := by
  rw [if_pos hw]
  exact wp_load_row _ x ho g hx _ (row s) _ _ hg Tryd.underlying25 rfl info25 h
theorem stR {K : Act → World → Prop} {E : Prop} (x y : Operand) (ho : o.op = .store 25 x y) (hw : Region.wanted o (yielded ops a.tmps) = true) (g : Nat) (hx : a.eval x = .pointer (some ⟨g, 0, none⟩)) (t : Nat → Nat) (hy : a.eval y = .agg (row t)) (s : Nat → Nat) (hg : Row g s w)
    (h : ∀ w1, Row g t w1 → Upd g w w1 → K (a.put o.dst undef) w1) : if Region.wanted o (yielded ops a.tmps) = true then Oper.wp Tryd.prog o a w K Q else E := by
  rw [if_pos hw]
  exact wp_store_row _ x y ho g (row t) hx hy _ (row s) hg info25 rfl (row_one t) (h _ (setRow_heap w g _ _ _ _ hg) (upd_setRow _))
theorem run_alloc25 (w : World) : (zeroValue 25).run Tryd.prog w = .ok (.agg (row zeroS)) w := Tryd.zeroValue25 w
theorem wp_al {K : Act → World → Prop} (ho : o.op = .alloc 25) (h : ∀ g w1, Row g zeroS w1 → Below w.heap.size w w1 → w.heap.size ≤ g → K (a.put o.dst (.pointer (some ⟨g, 0, none⟩))) w1) : Oper.wp Tryd.prog o a w K Q := by
  have h1 := h w.heap.size (w.alloc (.cells (row zeroS) 25)) (Row.new _ _) ((Below.refl _ _).alloc (Nat.le_refl _) _) (Nat.le_refl _)
  unfold Oper.wp execOp
  simp only [ho]
  go_simp
  exact h1
theorem alR {K : Act → World → Prop} {E : Prop} (ho : o.op = .alloc 25) (hw : Region.wanted o (yielded ops a.tmps) = true)
    (h : ∀ g w1, Row g zeroS w1 → Below w.heap.size w w1 → w.heap.size ≤ g → K (a.put o.dst (.pointer (some ⟨g, 0, none⟩))) w1) : if Region.wanted o (yielded ops a.tmps) = true then Oper.wp Tryd.prog o a w K Q else E := by
  rw [if_pos hw]
  exact wp_al ho h
theorem al (ho : o.op = .alloc 25) (hw : Region.wanted o (yielded ops a.tmps) = true)
    (h : ∀ g w1, Row g zeroS w1 → Below w.heap.size w w1 → w.heap.size ≤ g → wpList Tryd.prog ops Q rest (a.put o.dst (.pointer (some ⟨g, 0, none⟩))) w1) : wpList Tryd.prog ops Q (o :: rest) a w :=
  BigFrame.wpList_want hw fun _ hK => wp_al ho (fun g w1 h1 h2 h3 => hK _ _ (h g w1 h1 h2 h3))
/-- The empty set, written out. -/
theorem zero_built : Tryd.prog.built 25 [] = some (row zeroS) := by kernel_rfl
theorem bld (ho : o.op = .build 25 #[]) (hw : Region.wanted o (yielded ops a.tmps) = true)
    (h : wpList Tryd.prog ops Q rest (a.put o.dst (.agg (row zeroS))) w) : wpList Tryd.prog ops Q (o :: rest) a w :=
  BigFrame.wpList_want hw fun _ hK => by
    have hc : Tryd.prog.built 25 ((#[] : Array (Nat × Operand)).map fun (i, x) => (i, a.eval x)).toList = some (row zeroS) := by simp [zero_built]
    refine wp_build _ #[] ho (by rw [hc]; rfl) ?_
    rw [hc]
    exact hK _ _ h
end
end Go.Proofs.YtpgkikondihplaaDoor.Bb
