/- Slices of whole numbers: what a walk needs of one that came in, and of one that the call itself appends to. Condition: no list is longer than 2^40. -/
import Derived.Test.YtpgkikondihplaaDoorBu
namespace Go.Proofs.YtpgkikondihplaaDoor.Bv
open Go.RowKit Go.Proofs.YtpgkikondihplaaDoor.Ba Go.Proofs.YtpgkikondihplaaDoor.Bm Go.Proofs.YtpgkikondihplaaDoor.Bn Go.Proofs.YtpgkikondihplaaDoor.Bb Go.Proofs.YtpgkikondihplaaDoor.Bd Go.Proofs.YtpgkikondihplaaDoor.Bt Go.Proofs.YtpgkikondihplaaDoor.Be Go.Proofs.YtpgkikondihplaaDoor.Bu
set_option linter.unusedVariables false
set_option linter.unusedSimpArgs false
set_option maxRecDepth 100000
/-- A slice's cells, where it has any. -/
def SlAt (a : Option Addr) (l : List Int) (w : World) : Prop := 0 < l.length → ∃ b off, a = some ⟨b, off, none⟩ ∧ ∀ i, i < l.length → w.cell? ⟨b, off + i, none⟩ = some (.int .i64 (l.getD i 0))
theorem SlAt.on {a : Option Addr} {l : List Int} {w w1 : World} (h : SlAt a l w) (hb : Below w.heap.size w w1) : SlAt a l w1 := fun h0 => by
  obtain ⟨b, off, rfl, hc⟩ := h h0
  refine ⟨b, off, rfl, fun i hi => ?_⟩
  have := hc i hi
  exact (hb.cell (p := ⟨b, off + i, none⟩) (World.block_lt_of_cell? w _ this)).trans this
/-- A slice that reads as a list. -/
def Rd (v : Value) (l : List Int) (w : World) : Prop := ∃ a cap, v = .slice a l.length cap ∧ l.length ≤ 1099511627776 ∧ SlAt a l w
theorem Rd.on {v : Value} {l : List Int} {w w1 : World} (h : Rd v l w) (hb : Below w.heap.size w w1) : Rd v l w1 := by
  obtain ⟨a, cap, rfl, hl, hs⟩ := h
  exact ⟨a, cap, rfl, hl, hs.on hb⟩
/-- A slice of the call's own. -/
def Own (B : Nat) (v : Value) (l : List Int) (w : World) : Prop := w.ownsRow B 3 1 v l.length (l.map (Value.int .i64))
theorem Own.nil (B : Nat) (w : World) : Own B (.slice none 0 0) [] w := World.ownsRow_nil w B 3 1
theorem Own.rd {B : Nat} {v : Value} {l : List Int} {w : World} (h : Own B v l w) (hl : l.length ≤ 1099511627776) : Rd v l w := by
  obtain ⟨h1, ⟨rfl, h2⟩ | ⟨g, cap, cur, rfl, hg, hh, hn, hm, hz, ht⟩⟩ := h
  · refine ⟨none, 0, by rw [h2], hl, fun h0 => by omega⟩
  · refine ⟨some ⟨g, 0, none⟩, cap, rfl, hl, fun h0 => ⟨g, 0, rfl, fun i hi => ?_⟩⟩
    rw [Nat.zero_add, cell_of_row w g i cur _ _ hh]
    have : (cur.toList.take (l.length * 1))[i]? = (l.map (Value.int .i64))[i]? := by rw [ht]
    rw [List.getElem?_take, if_pos (by omega), Array.getElem?_toList, List.getElem?_map] at this
    rw [this, List.getElem?_eq_getElem hi]
    simp [List.getD_eq_getElem?_getD, List.getElem?_eq_getElem hi]
theorem Own.on {B : Nat} {v : Value} {l : List Int} {w w1 : World} (h : Own B v l w) (hb : Below w.heap.size w w1) : Own B v l w1 := by
  refine World.ownsRow.kept (row := none) h ⟨hb.os, hb.tape, hb.output, hb.size, fun k hk _ => hb.block k hk⟩ ?_
  cases h' : v.ownBlock with
  | none => exact Or.inl rfl
  | some k => exact Or.inr (by simp)
theorem Own.mono {B B' : Nat} {v : Value} {l : List Int} {w : World} (h : Own B v l w) (hB : B' ≤ B) : Own B' v l w := by
  obtain ⟨h1, h2 | ⟨g, cap, cur, hv, hg, r⟩⟩ := h
  · exact ⟨h1, Or.inl h2⟩
  · exact ⟨h1, Or.inr ⟨g, cap, cur, hv, Nat.le_trans hB hg, r⟩⟩
theorem info3 : (Tryd.prog.info? 3).map (fun i => (i.zero, i.size, i.bytes)) = some (some (.int .i64 0), 1, 8) := by kernel_rfl
section
variable {ops : Array Oper} {rest : List Oper} {o : Oper} {a : Act} {w : World} {Q : Exit → Act → World → Prop}
/-- One number is appended to a slice of the call's own. -/
theorem app1 (s x : Operand) (ho : o.op = .call { callee := .builtin .append, args := #[s, x], argTypes := #[27, 27] }) (hgd : o.guard = none) (B : Nat) (v : Value) (l : List Int) (hs : a.eval s = v) (hown : Own B v l w)
    (g : Nat) (hx : a.eval x = .slice (some ⟨g, 0, none⟩) 1 1) (n : Int) (hc : w.cell? ⟨g, 0, none⟩ = some (.int .i64 n)) (hl : l.length ≤ 1099511627776) (hB : B ≤ w.heap.size)
    (h : ∀ v' w', Own B v' (l ++ [n]) w' → Below B w w' → wpList Tryd.prog ops Q rest (a.put o.dst v') w') : wpList Tryd.prog ops Q (o :: rest) a w := by
  obtain ⟨i, hi, hz0, hz1, hz2⟩ := info_parts info3
  refine wpList_append_own w hgd s x _ ho B 3 i (.int .i64 0) 1 8 Tryd.underlying27 hi hz0 hz1 hz2 rfl (by decide) v l.length (l.map (Value.int .i64)) hs hown ⟨g, 0, none⟩ 1 1 [.int .i64 n] hx rfl ?_ ?_ ?_ ?_ hB ?_
  · intro j u hj
    cases j with
    | zero => simp at hj; subst hj; rw [show (⟨g, 0, none⟩ : Addr).add 0 = ⟨g, 0, none⟩ from rfl]; exact hc
    | succ j => simp at hj
  · intro u hu; simp at hu; subst hu; rfl
  · unfold maxLen; omega
  · omega
  · intro v' w' h1 h2 _
    refine h v' w' ?_ ?_
    · unfold Own; rw [List.length_append, List.map_append]; exact h1
    · exact (Below.refl B w).grown h2 hB (fun k hk => (World.ownsRow.lt hown k hk).1)
end
end Go.Proofs.YtpgkikondihplaaDoor.Bv
