/- The laws' 'large' as a contract. Condition: none but that the slices' lengths are whole numbers of 64 bits. -/
import Derived.Test.YtpgkikondihplaaDoorBy
namespace Go.Proofs.YtpgkikondihplaaDoor.Bz
open Go.RowKit Go.Proofs.YtpgkikondihplaaDoor.Ba Go.Proofs.YtpgkikondihplaaDoor.Bm Go.Proofs.YtpgkikondihplaaDoor.Bn Go.Proofs.YtpgkikondihplaaDoor.Bb Go.Proofs.YtpgkikondihplaaDoor.Bu Go.Proofs.YtpgkikondihplaaDoor.Bv Go.Proofs.YtpgkikondihplaaDoor.Bw Go.Proofs.YtpgkikondihplaaDoor.Bx Go.Proofs.YtpgkikondihplaaDoor.By
set_option linter.unusedVariables false
set_option linter.unusedSimpArgs false
set_option maxRecDepth 100000
/-- Is one of the lengths above 200? -/
def big (n : Nat) (L : Nat → Nat) : Bool := (List.range n).any fun i => decide (200 < L i)
theorem big_yes {n k : Nat} {L : Nat → Nat} (hk : k < n) (h : 200 < L k) : big n L = true := by
  unfold big; rw [List.any_eq_true]; exact ⟨k, List.mem_range.2 hk, by simpa using h⟩
theorem big_no {n : Nat} {L : Nat → Nat} (h : ∀ j, j < n → L j ≤ 200) : big n L = false := by
  unfold big; rw [List.any_eq_false]; intro i hi; simp; exact h i (List.mem_range.1 hi)
def Small (k : Nat) (L : Nat → Nat) : Prop := ∀ j, j < k → L j ≤ 200
theorem Small.next {k : Nat} {L : Nat → Nat} (h : Small k L) (h0 : L k ≤ 200) : Small (k + 1) L := fun j hj => by
  by_cases e : j = k
  · subst e; exact h0
  · exact h j (by omega)
set_option maxHeartbeats 400000 in
theorem largeC (g n cap : Nat) (A : Nat → Option Addr) (L C : Nat → Nat) (hn : n ≤ 1000) (w : World) (hc : ∀ i, i < n → w.cell? ⟨g, i, none⟩ = some (.slice (A i) (L i) (C i))) : Calls Tryd.prog 18 #[.slice (some ⟨g, 0, none⟩) n cap] w fun e w' => e = .returned (.bool (big n L)) ∧ Below w.heap.size w w' := by
  have HC := Lib.hid hc
  clear hc
  go_enter Tryd.func18, Tryd.ntmps18
  go_wp2_with fail
  go_loop [3] (fun v => ∃ k : Nat, k ≤ n ∧ v = .int .i64 k ∧ Small k L) (fun v => n - (intOf v).toNat)
  case atStart => exact ⟨0, by omega, rfl, fun j hj => absurd hj (by omega)⟩
  case round =>
    obtain ⟨k, hk, rfl, hs⟩ := hrel
    by_cases hlt : k < n
    · have q := HC.out k hlt
      have hz : (0 : Int) ≤ (k : Int) := by omega
      have hzn : (k : Int) < (n : Int) := by omega
      by_cases h2 : 200 < L k
      · have hg : (200 : Int) < (L k : Int) := by omega
        have hans := Lib.hid (big_yes hlt h2)
        clear h2 hs
        go_wp2_with fail
        go_ret
        exact ⟨congrArg (fun b => Ending.returned (.bool b)) hans.out.symm, Below.refl _ _⟩
      · have hg : ¬ (200 : Int) < (L k : Int) := by omega
        have hs' := hs.next (by omega)
        clear h2 hs
        go_wp2_with fail
        go_round
        case rel => exact ⟨k + 1, by omega, by go_num, hs'⟩
        case measure => simp [intOf]; omega
    · obtain rfl : k = n := by omega
      have hzn : ¬ (k : Int) < (k : Int) := by omega
      have hans := Lib.hid (big_no hs)
      clear hs
      go_wp2_with fail
      go_ret
      exact ⟨congrArg (fun b => Ending.returned (.bool b)) hans.out.symm, Below.refl _ _⟩
/-- A list of so many slices, laid out. -/
theorem large_lit (vs : List (Option Addr × Nat × Nat)) (c : Array Value) (hc : c = (vs.map fun x => Value.slice x.1 x.2.1 x.2.2).toArray) (n : Nat) (hn : vs.length = n) (hs : n ≤ 1000) (b : Bool) (hb : big n (fun i => (vs.getD i (none, 0, 0)).2.1) = b) (w : World) :
    Calls Tryd.prog 18 #[.slice (some ⟨w.heap.size, 0, none⟩) n n] (w.alloc (.cells c 27)) fun e w' => e = .returned (.bool b) ∧ Below (w.alloc (.cells c 27)).heap.size (w.alloc (.cells c 27)) w' := by
  subst hb hc hn
  refine largeC w.heap.size vs.length vs.length (fun i => (vs.getD i (none, 0, 0)).1) _ (fun i => (vs.getD i (none, 0, 0)).2.2) hs _ fun i hi => ?_
  rw [cell_of_row _ _ _ _ _ _ (heap_alloc_new w _)]
  simp [List.getD_eq_getElem?_getD, List.getElem?_eq_getElem hi]
section
variable {ops : Array Oper} {rest : List Oper} {o : Oper} {a : Act} {w : World} {Q : Exit → Act → World → Prop}
/-- Two sets that are the same are equal. -/
theorem eqT (x y : Operand) (ho : o.op = .binOp .eql 25 x y 25) (hw : Region.wanted o (yielded ops a.tmps) = true) (s t : Nat → Nat) (hx : a.eval x = .agg (row s)) (hy : a.eval y = .agg (row t)) (he : SameS s t)
    (h : wpList Tryd.prog ops Q rest (a.put o.dst (.bool true)) w) : wpList Tryd.prog ops Q (o :: rest) a w :=
  Go.Proofs.YtpgkikondihplaaDoor.Bg.eqO x y ho hw s t hx hy (by rw [(Go.Proofs.YtpgkikondihplaaDoor.Bg.eqB_iff s t).2 he]; exact h)
end
end Go.Proofs.YtpgkikondihplaaDoor.Bz
