/- Rows of bytes that a call has made itself, with or without the mark of a conversion: one byte appended; the string of such a row. No function of the program here. No condition but what is written. -/
import Derived.Laws.IdiomStrings
import Derived.Laws.IdiomCopy
import Derived.Laws.AppendOwn
import Derived.Laws.Tables
import Derived.WalkKit
namespace Go.Proofs.Ytijhdnpaeliaoaa.Wb
open Go.RowKit
set_option linter.unusedVariables false
set_option linter.unusedSimpArgs false
def cellsOf (l : List UInt8) : List Value := l.map fun b => Value.int .u8 (b.toNat : Int)
/-- v is a slice over a row at or behind 'base' whose first cells are the bytes l; no cell of it is frozen. -/
def Byt (w : World) (base : Nat) (e : TypeId) (v : Value) (l : List UInt8) : Prop :=
  ∃ g cap cur fz, v = .slice (some ⟨g, 0, none⟩) l.length cap ∧ base ≤ g ∧ w.heap[g]? = some (.cells cur e fz) ∧ (fz = (0, 0) ∨ cap ≤ fz.1) ∧ l.length ≤ cap ∧ cap ≤ maxLen ∧ cur.size = cap ∧ cur.toList.take l.length = cellsOf l
theorem Byt.kept {w w' : World} {base : Nat} {e : TypeId} {v : Value} {l : List UInt8} {B : Nat} (h : Byt w base e v l) (hb : Below B w w') (hB : w.heap.size ≤ B) : Byt w' base e v l := by
  obtain ⟨g, cap, cur, fz, rfl, h1, h2, rest⟩ := h
  have hg : g < w.heap.size := (Array.getElem?_eq_some_iff.1 h2).1
  exact ⟨g, cap, cur, fz, rfl, h1, by rw [hb.block g (by omega)]; exact h2, rest⟩
theorem Byt.alloc {w : World} {base : Nat} {e : TypeId} {v : Value} {l : List UInt8} (h : Byt w base e v l) (o : Obj) : Byt (w.alloc o) base e v l :=
  h.kept (B := w.heap.size) ((Below.refl _ _).alloc (Nat.le_refl _) o) (Nat.le_refl _)
theorem Byt.lt {w : World} {base : Nat} {e : TypeId} {v : Value} {l : List UInt8} (h : Byt w base e v l) : ∀ k, v.ownBlock = some k → base ≤ k ∧ k < w.heap.size := by
  obtain ⟨g, cap, cur, fz, rfl, h1, h2, rest⟩ := h
  intro k hk
  simp [Value.ownBlock] at hk
  subst hk
  exact ⟨h1, (Array.getElem?_eq_some_iff.1 h2).1⟩
theorem cell_mark {w : World} {g : Nat} {cur : Array Value} {e : TypeId} {fz : Nat × Nat} (h : w.heap[g]? = some (.cells cur e fz)) (j : Nat) : w.cell? ⟨g, j, none⟩ = cur[j]? := by
  simp [World.cell?, h]
theorem cell_byt {l : List UInt8} {cur : Array Value} (h : cur.toList.take l.length = cellsOf l) (j : Nat) (hj : j < l.length) : cur[j]? = some (.int .u8 (l[j].toNat : Int)) := by
  have h1 : (cur.toList.take l.length)[j]? = (cellsOf l)[j]? := by rw [h]
  rw [List.getElem?_take, if_pos hj] at h1
  simpa [cellsOf, hj] using h1
variable {P : Program}
/-- What '[]byte(s)' makes. -/
theorem run_bytes (w : World) (src dst e : TypeId) (s : ByteArray) (hs : P.underlying src = some .string) (hd : P.underlying dst = some (.slice e)) (he : P.underlying e = some (.int .u8)) (hlen : s.size ≤ maxLen) (base : Nat) (hb : base ≤ w.heap.size) :
    ∃ v' w', (convert src dst (.string s)).run P w = .ok v' w' ∧ Byt w' base e v' s.data.toList ∧ Below w.heap.size w w' ∧ v'.ownBlock = some w.heap.size := by
  refine ⟨_, _, run_bytes_of_string w src dst e s hs hd he, ?_, (Below.refl _ _).drew.alloc (Nat.le_refl _) _, rfl⟩
  have hge := grownCap_ge w s.size 0 e
  have hle := grownCap_le_maxLen w s.size 0 e hlen
  have hsz : s.data.size = s.size := rfl
  have hrow : (bytesRow s (grownCap w s.size 0 e)).size = grownCap w s.size 0 e := by simp [bytesRow]; omega
  refine ⟨w.heap.size, grownCap w s.size 0 e, _, _, by simp [hsz], hb, heap_alloc_new w.drew _, .inr (by rw [hrow]; exact Nat.le_refl _), by simpa [hsz] using hge, hle, hrow, ?_⟩
  simp [bytesRow, cellsOf, List.take_append]
theorem run_append_byt (w : World) (base : Nat) (t ty e : TypeId) (i : TypeInfo) (ht : P.underlying t = some (.slice e)) (hi : P.info? e = some i) (hz : i.zero = some (.int .u8 0))
    (hsize : i.size = 1) (hby : i.bytes = 1) (v : Value) (l : List UInt8) (hown : Byt w base e v l)
    (a : Addr) (c : Nat) (b : UInt8) (hnew : w.cell? a = some (.int .u8 (b.toNat : Int))) (hspot : a.spot = none) (hlen : l.length + 1 ≤ 140737488355328) (hbase : base ≤ w.heap.size) :
    ∃ v' w', (Builtin.append_ #[t, t] ty #[v, .slice (some a) 1 c]).run P w = .ok v' w' ∧ Byt w' base e v' (l ++ [b]) ∧ w.grownBy w' v.ownBlock := by
  obtain ⟨g, cap, cur, fz, rfl, h1, h2, h3, h4, h5, h6, h7⟩ := hown
  have hnews : ∀ j u, [Value.int .u8 (b.toNat : Int)][j]? = some u → w.cell? (a.add j) = some u := by
    intro j u hj
    cases j with
    | zero => simp at hj; subst hj; simpa [Addr.add] using hnew
    | succ j => simp at hj
  by_cases hroom : l.length + 1 ≤ cap
  · have hcell : (w.cell? ⟨g, l.length, none⟩).isSome = true := by
      rw [cell_mark h2]
      simp
      omega
    have hfr : w.frozen? ⟨g, l.length, none⟩ = false := by
      unfold World.frozen?
      simp only [h2]
      rcases h3 with rfl | h3
      · simp
      · obtain ⟨lo, hi⟩ := fz
        simp only at h3 ⊢
        simp
        omega
    have hf := run_firstCells_some (P := P) w i.size 1 a 1 c [Value.int .u8 (b.toNat : Int)] (by simp [hsize]) hnews
    rw [hsize] at hf
    have hst := run_storeCells_cells (P := P) g l.length [Value.int .u8 (b.toNat : Int)] 0 w (fun j hj => by
        have : j = 0 := by simpa using hj
        subst this
        exact hcell) (fun j hj => by
        have : j = 0 := by simpa using hj
        subst this
        exact hfr) (by simp [Value.oneCell'])
    have hr : (Builtin.append_ #[t, t] ty #[.slice (some ⟨g, 0, none⟩) l.length cap, .slice (some a) 1 c]).run P w = .ok (.slice (some ⟨g, 0, none⟩) (l.length + 1) cap) (w.setCells g l.length [Value.int .u8 (b.toNat : Int)]) := by
      simp [Builtin.append_, run_underlying ht, sizeOf, typeInfo, hi, Builtin.lenOf, hroom, hf, Addr.add_lit, hsize, hst]
    have hheap : (w.setCell ⟨g, l.length, none⟩ (.int .u8 (b.toNat : Int))).heap[g]? = some (.cells (cur.setIfInBounds l.length (.int .u8 (b.toNat : Int))) e fz) := by
      unfold World.setCell
      simp [Array.getElem?_modify, h2]
    refine ⟨_, _, hr, ⟨g, cap, cur.setIfInBounds l.length (.int .u8 (b.toNat : Int)), fz, by simp, h1, ?_, h3, by simpa using hroom, h5, by simpa using h6, ?_⟩, ⟨rfl, rfl, rfl, ?_, ?_⟩⟩
    · exact hheap
    · apply List.ext_getElem?
      intro j
      simp only [List.length_append, List.length_singleton, List.getElem?_take, Array.toList_setIfInBounds, List.getElem?_set]
      by_cases hj : j < l.length
      · have := cell_byt h7 j hj
        rw [if_pos (by omega), if_neg (by omega)]
        simp [cellsOf, List.getElem?_append, hj]
        simpa using this
      · by_cases hj2 : j = l.length
        · subst hj2
          simp [cellsOf, List.getElem?_append]
          omega
        · rw [if_neg (by omega)]
          symm
          rw [List.getElem?_eq_none_iff]
          simp [cellsOf]
          omega
    · show w.heap.size ≤ (w.setCell _ _).heap.size
      simp
    · intro k hk hne
      exact heap_setCell_other w ⟨g, l.length, none⟩ k _ (fun e => hne (by simp [Value.ownBlock, e]))
  · have holds : ∀ j u, (cellsOf l)[j]? = some u → w.cell? ((⟨g, 0, none⟩ : Addr).add j) = some u := by
      intro j u hj
      have hadd : (⟨g, 0, none⟩ : Addr).add j = ⟨g, j, none⟩ := by unfold Addr.add; split <;> simp_all
      have hjl : j < l.length := by
        have := (List.getElem?_eq_some_iff.1 hj).1
        simpa [cellsOf] using this
      rw [hadd, cell_mark h2, cell_byt h7 j hjl]
      simp [cellsOf, hjl] at hj
      rw [← hj]
    have hr := run_append_grow (P := P) w t ty e i _ ht hi hz ⟨g, 0, none⟩ l.length cap (cellsOf l) (by simp [hsize, cellsOf]) holds a 1 c [Value.int .u8 (b.toNat : Int)] (by simp [hsize]) hnews (by omega) (by omega)
      (growslice_fits (by omega) (by rw [hby]; omega))
    have hge := grownCap_ge w (l.length + 1) cap e
    have hle := grownCap_le_maxLen w (l.length + 1) cap e (by unfold maxLen; omega)
    refine ⟨_, _, hr, ⟨w.heap.size, _, _, _, by simp, hbase, heap_alloc_new w.drew _, .inl rfl, by simpa using hge, hle, ?_, ?_⟩, ⟨rfl, rfl, rfl, by simp, fun k hk _ => heap_alloc_old w.drew _ hk⟩⟩
    · simp [cellsOf, size_zeroCells, Value.cells]
      omega
    · simp [cellsOf]
      rw [List.take_append]
      simp [List.take_of_length_le]
theorem wpList_append_byt {w : World} {ops : Array Oper} {rest : List Oper} {o : Oper} {a : Act} {Q : Exit → Act → World → Prop} (hgd : o.guard = none) (s x : Operand) (t : TypeId)
    (ho : o.op = .call { callee := .builtin .append, args := #[s, x], argTypes := #[t, t] })
    (base : Nat) (e : TypeId) (i : TypeInfo) (ht : P.underlying t = some (.slice e)) (hi : P.info? e = some i) (hz : i.zero = some (.int .u8 0)) (hsize : i.size = 1) (hby : i.bytes = 1)
    (v : Value) (l : List UInt8) (hs : a.eval s = v) (hown : Byt w base e v l)
    (ad : Addr) (c : Nat) (b : UInt8) (hx : a.eval x = .slice (some ad) 1 c) (hnew : w.cell? ad = some (.int .u8 (b.toNat : Int))) (hspot : ad.spot = none) (hlen : l.length + 1 ≤ 140737488355328) (hbase : base ≤ w.heap.size)
    (h : ∀ v' w', Byt w' base e v' (l ++ [b]) → w.grownBy w' v.ownBlock → wpList P ops Q rest (a.put o.dst v') w') : wpList P ops Q (o :: rest) a w :=
  wpList_plain hgd fun _ hK => by
    obtain ⟨v', w', hr, h2, h3⟩ := run_append_byt (P := P) w base t o.type e i ht hi hz hsize hby v l hown ad c b hnew hspot hlen hbase
    unfold Oper.wp execOp
    simp only [ho, resolve, invoke, builtin, Sem.run_bind, Sem.run_pure, Result.andThen_ok, List.map_toArray, List.map_cons, List.map_nil, hs, hx, hr]
    exact hK _ _ (h v' w' h2 h3)
theorem run_string_byt (w : World) (base : Nat) (src dst e : TypeId) (v : Value) (l : List UInt8) (hs : P.underlying src = some (.slice e)) (he : P.underlying e = some (.int .u8)) (hd : P.underlying dst = some .string) (h : Byt w base e v l) :
    (convert src dst v).run P w = .ok (.string ⟨l.toArray⟩) w := by
  obtain ⟨g, cap, cur, fz, rfl, h1, h2, h3, h4, h5, h6, h7⟩ := h
  refine run_convert_bytes_back w src dst e ⟨g, 0, none⟩ cap l hs he hd fun j hj => ?_
  have hadd : (⟨g, 0, none⟩ : Addr).add j = ⟨g, j, none⟩ := by unfold Addr.add; split <;> simp_all
  rw [hadd, cell_mark h2, cell_byt h7 j hj]
/-- Behind an append: what was below the base is as it was. -/
theorem below_grown {w0 w w' : World} {base : Nat} {e : TypeId} {v : Value} {l : List UInt8} (h : Below base w0 w) (hown : Byt w base e v l) (hg : w.grownBy w' v.ownBlock) (hb : base ≤ w.heap.size) : Below base w0 w' :=
  h.grown hg hb fun k hk => (hown.lt k hk).1
end Go.Proofs.Ytijhdnpaeliaoaa.Wb
